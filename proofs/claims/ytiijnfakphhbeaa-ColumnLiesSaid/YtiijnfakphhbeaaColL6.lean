/- The law ColumnLies (layer 6), walked: true for every input. No condition. -/
import Derived.Test.YtiijnfakphhbeaaColL5
import Derived.Test.YtiijnfakphhbeaaColQ2
namespace Go.Proofs.Ytiijnfakphhbeaa
open Go.RowKit Go.Maps
set_option linter.unusedVariables false
set_option linter.unusedSimpArgs false

theorem eq_parts (v x : V) : (decide ((v.k : Int) = (x.k : Int)) && (decide (v.n = x.n) && decide (v.t = x.t))) = decide (v = x) := by
  obtain ⟨k, n, t⟩ := v
  obtain ⟨k', n', t'⟩ := x
  rw [Bool.eq_iff_iff]
  simp only [Bool.and_eq_true, decide_eq_true_eq, V.mk.injEq]
  constructor
  · rintro ⟨h1, h2, h3⟩; exact ⟨by omega, h2, h3⟩
  · rintro ⟨h1, h2, h3⟩; exact ⟨by omega, h2, h3⟩
theorem mem_more {x v : V} {m : List V} (h : false = decide (x ∈ m)) : decide (v = x) = decide (x ∈ m ++ [v]) := by
  have hn : x ∉ m := of_decide_eq_false h.symm
  apply decide_eq_decide.2
  rw [List.mem_append]
  constructor
  · intro e; right; rw [e]; simp
  · rintro (h | h)
    · exact absurd h hn
    · simp at h; exact h.symm
theorem mem_yes {x v : V} {m : List V} (h : true = decide (x ∈ m)) : true = decide (x ∈ m ++ [v]) := by
  have hn : x ∈ m := of_decide_eq_true h.symm
  exact (decide_eq_true (List.mem_append.2 (.inl hn))).symm
set_option maxHeartbeats 16000000 in
set_option maxRecDepth 100000 in
theorem columnLies_walk (a : Int) (A : Option Addr) (c : Nat) (l : List V) (z : Int) (W : World) (ha : 0 ≤ a ∧ a < 256)
    (hl : Rd W W.heap.size A (vcells l)) (hlc : l.length ≤ c ∧ c ≤ maxLen) (hok : ∀ v ∈ l, vok v) (hz : -9223372036854775808 ≤ z ∧ z ≤ 9223372036854775807) :
    Calls Try.prog 9 #[.int .u8 a, .slice A l.length c, .int .i64 z] W fun e w' => e = .returned (.bool true) ∧ Below W.heap.size W w' := by
  obtain ⟨t, hta⟩ := kind_of ha
  rw [hta]
  clear hta ha
  have KL := Lib.hid (fun w h hB => long_any W.heap.size A c l w h hB)
  obtain ⟨lg, hlg⟩ : ∃ x, x = lng l := ⟨_, rfl⟩
  rw [← hlg] at KL
  rcases lg with _ | _
  case true =>
    clear hlg
    go_enter Try.func9, Try.ntmps9
    go_wp2_with fail
    refine (KL.out W hl (Nat.le_refl _)).mono ?_; rintro e w1 ⟨rfl, rfl⟩
    go_wp2_with fail
    go_ret
    exact ⟨rfl, Below.refl _ _⟩
  obtain ⟨hl5, ht⟩ := lng_false hlg.symm
  have hok3 := vsm_of hok ht
  have HCOL := Lib.hid (rColumn_any W.heap.size A c t l W hl (Nat.le_refl _) (by omega) (fun v hv => (hok v hv).1))
  obtain ⟨co, hco⟩ : ∃ x, x = colok t l := ⟨_, rfl⟩
  rw [← hco] at HCOL
  cases co
  case false =>
    clear hlg
    go_enter Try.func9, Try.ntmps9
    go_wp2_with fail
    refine (KL.out W hl (Nat.le_refl _)).mono ?_; rintro e w1 ⟨rfl, rfl⟩
    go_wp2_with fail
    refine HCOL.out.mono ?_; rintro e w1 ⟨rfl, hb1⟩
    go_wp2_with fail
    go_ret
    exact ⟨rfl, hb1⟩
  have hgood : ∀ v ∈ l, good v := fun v hv => by
    have h := (colok_parts hco.symm).2.2 v hv
    unfold rmay at h
    simp only [Bool.and_eq_true] at h
    exact ⟨h.1, (hok v hv).2.1⟩
  have hbe := bnds_eq l hgood
  have hspec := bndV_spec hgood
  have B1 := fun w h hB => bounds_any W.heap.size A c l w h hB (by omega) hok3
  have B2 := Lib.hid (fun (k : Nat) (hk : k ≤ l.length) (w : World) (h : Rd w W.heap.size A (vcells (l.take k))) hB => bounds_any W.heap.size A c (l.take k) w h hB (by rw [List.length_take]; omega) (fun v hv => hok3 v (List.mem_of_mem_take hv)))
  rw [hbe] at B1
  have hspec2 : ∀ k, (marks (l.take k) = [] ∧ bnds (l.take k) = (null, null)) ∨ ((bnds (l.take k)).1 ∈ marks (l.take k) ∧ (bnds (l.take k)).2 ∈ marks (l.take k)) := fun k => by
    have hg2 : ∀ v ∈ l.take k, good v := fun v hv => hgood v (List.mem_of_mem_take hv)
    rw [bnds_eq _ hg2]
    rcases bndV_spec hg2 with h | ⟨_, h1, h2, _⟩
    · exact .inl h
    · exact .inr ⟨h1, h2⟩
  obtain ⟨q, hq⟩ : ∃ q, q = bndV l := ⟨_, rfl⟩
  rw [← hq] at hspec B1
  obtain ⟨x, y⟩ := q
  dsimp only at hspec B1
  obtain ⟨n, hn⟩ : ∃ n, n = l.length := ⟨_, rfl⟩
  have HN := Lib.hid hn
  rw [← hn] at KL HCOL B1 hl5 ⊢
  have H1 := Lib.hid B1
  have HS2 := Lib.hid hspec2
  have HSP := Lib.hid hspec
  have hNC : n ≤ c := by rw [hn]; exact hlc.1
  clear hlg hco hok3 hgood hbe hspec B1 hspec2 hq hok ht hlc hn
  go_enter Try.func9, Try.ntmps9
  go_wp2_with fail
  refine (KL.out W hl (Nat.le_refl _)).mono ?_; rintro e w1 ⟨rfl, rfl⟩
  go_wp2_with fail
  refine HCOL.out.mono ?_; rintro e w1 ⟨rfl, hb1⟩
  have hz1 := hb1.size
  go_wp2_with fail
  refine (H1.out w1 (hl.below hb1) hz1).mono ?_; rintro e w2 ⟨rfl, hb2⟩
  have hb02 : Below W.heap.size W w2 := hb1.trans (hb2.mono hz1)
  have hz2 := hb02.size
  go_wp2_with fail
  obtain ⟨w3, hw3⟩ : ∃ w3, w3 = (w2.alloc (cells3 x)).alloc (cells3 y) := ⟨_, rfl⟩
  have hw3' : w3 = (w2.alloc (.cells #[.int .u8 (x.k : Int), .int .i64 x.n, .string ⟨x.t.toArray⟩] 38)).alloc (.cells #[.int .u8 (y.k : Int), .int .i64 y.n, .string ⟨y.t.toArray⟩] 38) := hw3
  rw [← hw3']
  have g0 : w3.heap[w2.heap.size]? = some (cells3 x) := by rw [hw3]; exact block_al (heap_alloc_new w2 _) _
  have g1 : w3.heap[w2.heap.size + 1]? = some (cells3 y) := by
    have h := heap_alloc_new (w2.alloc (cells3 x)) (cells3 y)
    rw [World.size_alloc] at h; rw [hw3]; exact h
  have hb03 : Below W.heap.size W w3 := by rw [hw3]; exact (hb02.alloc hz2 _).alloc (by simp; omega) _
  obtain ⟨p, hp⟩ : ∃ p, p = w2.heap.size := ⟨_, rfl⟩
  rw [← hp] at g0 g1 hz2 ⊢
  clear hw3 hw3' hb1 hb2 hb02 hp hz1
  go_loopw [9, 10, 11, 12] (fun v9 v10 v11 v12 wr => ∃ (k : Nat) (lb gb : Bool) (j : Nat), k ≤ n ∧ v12 = .int .i64 k ∧ v9 = .bool lb ∧ v10 = .bool gb ∧ v11 = .int .i64 j ∧ lb = decide (x ∈ marks (l.take k)) ∧ gb = decide (y ∈ marks (l.take k)) ∧ j = (marks (l.take k)).length ∧ j ≤ k ∧ wr.heap[p]? = some (cells3 x) ∧ wr.heap[p + 1]? = some (cells3 y) ∧ Below W.heap.size W wr) (fun _ _ _ v12 _ => n - (intOf v12).toNat)
  case atStart => exact ⟨0, false, false, 0, by omega, rfl, rfl, rfl, rfl, by simp [marks], by simp [marks], by simp [marks], by omega, g0, g1, hb03⟩
  case round =>
    clear g0 g1 hb03
    obtain ⟨k, lb, gb, j, hk, rfl, rfl, rfl, rfl, hlb, hgb, hj, hjk, h0, h1, hbel⟩ := hrel
    have hzr := hbel.size
    have HLB := Lib.hid hlb
    have HGB := Lib.hid hgb
    have HJ := Lib.hid hj
    have H0 := Lib.hid h0
    have H1' := Lib.hid h1
    clear hlb hgb hj
    by_cases hlt : k < n
    case neg =>
      have hkn : k = n := by omega
      have hge : (n : Int) ≤ (k : Int) := by omega
      have hm : marks (l.take k) = marks l := by rw [hkn, HN.out, List.take_length]
      rcases HSP.out with ⟨hm0, hxy⟩ | ⟨hm0, hx, hy, hless⟩
      · obtain ⟨rfl, rfl⟩ : x = null ∧ y = null := by simpa using hxy
        have hj0 : j = 0 := by rw [HJ.out, hm, hm0]; rfl
        subst hj0
        obtain ⟨a0, a1, a2⟩ := three_cells h0
        obtain ⟨b0, b1, b2⟩ := three_cells h1
        simp only [null] at a0 a1 a2 b0 b1 b2
        have q0 := lt_of_block h0
        have q1 := lt_of_block h1
        clear hxy hm hm0 hkn h0 h1
        go_wp2_with fail
        refine (puts_any _).mono ?_; rintro e w8 ⟨rfl, hb8⟩
        go_wp2_with fail
        go_ret
        exact ⟨rfl, hbel.trans (hb8.mono hzr)⟩
      have hjp : ((j : Int) == 0) = false := by
        have : 0 < (marks l).length := List.length_pos_iff.2 hm0
        have h := HJ.out
        rw [hm] at h
        simp; omega
      have hlbt : lb = true := by rw [HLB.out, hm]; exact decide_eq_true hx
      have hgbt : gb = true := by rw [HGB.out, hm]; exact decide_eq_true hy
      subst hlbt hgbt
      have HLESS := Lib.hid hless
      obtain ⟨hkk, hr1, hr2⟩ := cut_bd z (n + 1) (by omega)
      obtain ⟨u, hu⟩ : ∃ u, u = cutAt z (n + 1) := ⟨_, rfl⟩
      rw [← hu] at hkk
      unfold cutAt at hu
      have hun : u ≤ n := by omega
      have B3 := B2.out u (by rw [← HN.out]; exact hun)
      have hlt3 : (l.take u).length = u := by rw [List.length_take, ← HN.out]; omega
      rw [hlt3] at B3
      have hs3 := HS2.out u
      have hsub : ∀ v, v ∈ marks (l.take u) → v ∈ marks l := fun v hv => marks_take_sub hv
      obtain ⟨q, hq⟩ : ∃ q, q = bnds (l.take u) := ⟨_, rfl⟩
      rw [← hq] at B3 hs3
      obtain ⟨x2, y2⟩ := q
      dsimp only at B3 hs3
      have hcase : (x2.k = 0) ∨ (x2.k ≠ 0 ∧ lessV x2 x = false ∧ lessV y y2 = false) := by
        rcases hs3 with ⟨_, h⟩ | ⟨h1, h2⟩
        · left
          have : x2 = null := (Prod.mk.inj h).1
          rw [this]; rfl
        · right
          exact ⟨(mem_marks.1 h1).2, (hless x2 (hsub _ h1)).1, (hless y2 (hsub _ h2)).2⟩
      have HB3 := Lib.hid B3
      have HCASE := Lib.hid hcase
      have hlr := hl.below hbel
      have hrt : Rd wr W.heap.size A (vcells (l.take u)) := by
        have e : vcells (l.take u) = (vcells l).take (u * 3) := by
          conv => rhs; rw [← List.take_append_drop u l, vcells_append]
          rw [show u * 3 = (vcells (l.take u)).length by rw [vcells_length, hlt3], List.take_left]
        rw [e]; exact hlr.take _
      have HRT := Lib.hid hrt
      have HLC := Lib.hid hlr
      obtain ⟨a0, a1, a2⟩ := three_cells h0
      obtain ⟨b0, b1, b2⟩ := three_cells h1
      have hn1 : ((n + 1 : Nat) : Int) = (n : Int) + 1 := by omega
      rw [hn1] at hr1 hr2
      have hnc : n ≤ c := hNC
      have FIN : ∀ (zz : Int), zz = (u : Int) → ∀ w', (Instr.sliceAt 22 (.slice A n c) none (some (.int .i64 zz)) none).run Try.prog w' = .ok (.slice A u c) w' := fun zz hzz w' => upto_vals (A := A) u hun hnc w' zz hzz
      have HFIN := Lib.hid FIN
      clear hless B3 hs3 hsub hq hcase hlr hrt hm hm0 hx hy hkn FIN hlt3
      by_cases hneg : z.tmod ((n : Int) + 1) < 0
      · have hkI : z.tmod ((n : Int) + 1) + (n : Int) + 1 = (u : Int) := by rw [hn1, if_pos hneg] at hu; omega
        have hsl := HFIN.out _ hkI
        clear hu hkI
        go_wp2_with fail
        refine (HB3.out wr HRT.out hzr).mono ?_; rintro e w5 ⟨rfl, hb5⟩
        have hb05 : Below W.heap.size W w5 := hbel.trans (hb5.mono hzr)
        have hz5 := hb05.size
        have k0 := (hb5.block _ (lt_of_block H0.out)).trans H0.out
        have k1 := (hb5.block _ (lt_of_block H1'.out)).trans H1'.out
        obtain ⟨a0, a1, a2⟩ := three_cells k0
        obtain ⟨b0, b1, b2⟩ := three_cells k1
        have hp5 := lt_of_block k0
        have hp6 := lt_of_block k1
        obtain ⟨w6, hw6⟩ : ∃ w6, w6 = (w5.alloc (cells3 x2)).alloc (cells3 y2) := ⟨_, rfl⟩
        have hw6' : w6 = (w5.alloc (.cells #[.int .u8 (x2.k : Int), .int .i64 x2.n, .string ⟨x2.t.toArray⟩] 38)).alloc (.cells #[.int .u8 (y2.k : Int), .int .i64 y2.n, .string ⟨y2.t.toArray⟩] 38) := hw6
        have g1 : w6.heap[w5.heap.size + 1]? = some (cells3 y2) := by
          have h := heap_alloc_new (w5.alloc (cells3 x2)) (cells3 y2)
          rw [World.size_alloc] at h; rw [hw6]; exact h
        have g2 : w6.heap[p + 1]? = some (cells3 y) := by rw [hw6]; exact block_al (block_al k1 _) _
        have hb06 : Below W.heap.size W w6 := by rw [hw6]; exact (hb05.alloc hz5 _).alloc (by simp; omega) _
        have hz6 := hb06.size
        have HW6 := Lib.hid hw6'
        have G1 := Lib.hid g1
        have G2 := Lib.hid g2
        clear hw6 hw6' g1 g2 k0 k1
        rcases HCASE.out with hx0 | ⟨hx0, hl1, hl2⟩
        · have hI0 : ((x2.k : Int) == 0) = true := by simp; omega
          clear hx0
          go_wp2_with fail
          rw [← HW6.out]
          refine (puts_any _).mono ?_; rintro e w8 ⟨rfl, hb8⟩
          go_wp2_with fail
          go_ret
          exact ⟨rfl, hb06.trans (hb8.mono hz6)⟩
        · have hI0 : ((x2.k : Int) == 0) = false := by simp; omega
          have L1 := fun w => Less_any x2 x w
          have L2 := fun w => Less_any y y2 w
          rw [hl1] at L1
          rw [hl2] at L2
          have HL1 := Lib.hid L1
          have HL2 := Lib.hid L2
          clear hx0 hl1 hl2 L1 L2
          go_wp2_with fail
          rw [← HW6.out]
          refine (HL1.out _).mono ?_; rintro e w7 ⟨rfl, hb7⟩
          have k0 := (hb7.block _ (lt_of_block G1.out)).trans G1.out
          have k1 := (hb7.block _ (lt_of_block G2.out)).trans G2.out
          obtain ⟨c0, c1', c2⟩ := three_cells k0
          obtain ⟨d0, d1, d2⟩ := three_cells k1
          have hb07 : Below W.heap.size W w7 := hb06.trans (hb7.mono hz6)
          have hz7 := hb07.size
          clear k0 k1
          go_wp2_with fail
          refine (HL2.out _).mono ?_; rintro e w9 ⟨rfl, hb9⟩
          have hb09 : Below W.heap.size W w9 := hb07.trans (hb9.mono hz7)
          go_wp2_with fail
          refine (puts_any _).mono ?_; rintro e w8 ⟨rfl, hb8⟩
          go_wp2_with fail
          go_ret
          exact ⟨rfl, hb09.trans (hb8.mono hb09.size)⟩
      · have hkI : z.tmod ((n : Int) + 1) = (u : Int) := by rw [hn1, if_neg hneg] at hu; omega
        have hnn : 0 ≤ z.tmod ((n : Int) + 1) := by omega
        have hsl := HFIN.out _ hkI
        clear hu hkI hneg
        go_wp2_with fail
        refine (HB3.out wr HRT.out hzr).mono ?_; rintro e w5 ⟨rfl, hb5⟩
        have hb05 : Below W.heap.size W w5 := hbel.trans (hb5.mono hzr)
        have hz5 := hb05.size
        have k0 := (hb5.block _ (lt_of_block H0.out)).trans H0.out
        have k1 := (hb5.block _ (lt_of_block H1'.out)).trans H1'.out
        obtain ⟨a0, a1, a2⟩ := three_cells k0
        obtain ⟨b0, b1, b2⟩ := three_cells k1
        have hp5 := lt_of_block k0
        have hp6 := lt_of_block k1
        obtain ⟨w6, hw6⟩ : ∃ w6, w6 = (w5.alloc (cells3 x2)).alloc (cells3 y2) := ⟨_, rfl⟩
        have hw6' : w6 = (w5.alloc (.cells #[.int .u8 (x2.k : Int), .int .i64 x2.n, .string ⟨x2.t.toArray⟩] 38)).alloc (.cells #[.int .u8 (y2.k : Int), .int .i64 y2.n, .string ⟨y2.t.toArray⟩] 38) := hw6
        have g1 : w6.heap[w5.heap.size + 1]? = some (cells3 y2) := by
          have h := heap_alloc_new (w5.alloc (cells3 x2)) (cells3 y2)
          rw [World.size_alloc] at h; rw [hw6]; exact h
        have g2 : w6.heap[p + 1]? = some (cells3 y) := by rw [hw6]; exact block_al (block_al k1 _) _
        have hb06 : Below W.heap.size W w6 := by rw [hw6]; exact (hb05.alloc hz5 _).alloc (by simp; omega) _
        have hz6 := hb06.size
        have HW6 := Lib.hid hw6'
        have G1 := Lib.hid g1
        have G2 := Lib.hid g2
        clear hw6 hw6' g1 g2 k0 k1
        rcases HCASE.out with hx0 | ⟨hx0, hl1, hl2⟩
        · have hI0 : ((x2.k : Int) == 0) = true := by simp; omega
          clear hx0
          go_wp2_with fail
          rw [← HW6.out]
          refine (puts_any _).mono ?_; rintro e w8 ⟨rfl, hb8⟩
          go_wp2_with fail
          go_ret
          exact ⟨rfl, hb06.trans (hb8.mono hz6)⟩
        · have hI0 : ((x2.k : Int) == 0) = false := by simp; omega
          have L1 := fun w => Less_any x2 x w
          have L2 := fun w => Less_any y y2 w
          rw [hl1] at L1
          rw [hl2] at L2
          have HL1 := Lib.hid L1
          have HL2 := Lib.hid L2
          clear hx0 hl1 hl2 L1 L2
          go_wp2_with fail
          rw [← HW6.out]
          refine (HL1.out _).mono ?_; rintro e w7 ⟨rfl, hb7⟩
          have k0 := (hb7.block _ (lt_of_block G1.out)).trans G1.out
          have k1 := (hb7.block _ (lt_of_block G2.out)).trans G2.out
          obtain ⟨c0, c1', c2⟩ := three_cells k0
          obtain ⟨d0, d1, d2⟩ := three_cells k1
          have hb07 : Below W.heap.size W w7 := hb06.trans (hb7.mono hz6)
          have hz7 := hb07.size
          clear k0 k1
          go_wp2_with fail
          refine (HL2.out _).mono ?_; rintro e w9 ⟨rfl, hb9⟩
          have hb09 : Below W.heap.size W w9 := hb07.trans (hb9.mono hz7)
          go_wp2_with fail
          refine (puts_any _).mono ?_; rintro e w8 ⟨rfl, hb8⟩
          go_wp2_with fail
          go_ret
          exact ⟨rfl, hb09.trans (hb8.mono hb09.size)⟩
    obtain ⟨v, hv⟩ : ∃ v, l[k]? = some v := ⟨_, List.getElem?_eq_getElem (by rw [← HN.out]; exact hlt)⟩
    have hlr := hl.below hbel
    obtain ⟨bv, ov, rfl, hbv, e0, e1, e2⟩ := rd_val hlr hv
    have hkI : (k : Int) < (n : Int) := by omega
    have hms := marks_snoc hv
    have hvm : v.k ≠ 0 → v ∈ marks l := fun h => mem_marks.2 ⟨List.mem_of_getElem? hv, h⟩
    obtain ⟨a0, a1, a2⟩ := three_cells h0
    obtain ⟨b0, b1, b2⟩ := three_cells h1
    have HMS := Lib.hid hms
    have HVM := Lib.hid hvm
    clear hms hvm hv hlr h0 h1
    by_cases hv0 : v.k = 0
    · have hI0 : ((v.k : Int) == 0) = true := by simp; omega
      have e : marks (l.take (k + 1)) = marks (l.take k) := by rw [HMS.out, if_pos (by simp [hv0]), List.append_nil]
      have HE := Lib.hid e
      clear hv0 e
      go_wp2_with fail
      go_roundw
      case rel => exact ⟨k + 1, lb, gb, j, by omega, by go_num, rfl, rfl, rfl, by rw [HE.out]; exact HLB.out, by rw [HE.out]; exact HGB.out, by rw [HE.out]; exact HJ.out, by omega, H0.out, H1'.out, hbel⟩
      case measure => simp [intOf]; omega
    have hI0 : ((v.k : Int) == 0) = false := by simp; omega
    have e : marks (l.take (k + 1)) = marks (l.take k) ++ [v] := by rw [HMS.out, if_neg (by simp [hv0])]
    have hvm := HVM.out hv0
    have hless : lessV v x = false ∧ lessV y v = false := by
      rcases HSP.out with ⟨h, _⟩ | ⟨_, _, _, h⟩
      · rw [h] at hvm; cases hvm
      · exact h v hvm
    have L1 := fun w => Less_any v x w
    have L2 := fun w => Less_any y v w
    rw [hless.1] at L1
    rw [hless.2] at L2
    have HL1 := Lib.hid L1
    have HL2 := Lib.hid L2
    have HE := Lib.hid e
    have FX := Lib.hid (fun (w' : World) (h : Below wr.heap.size wr w') => And.intro (cell_be a0 h (cell_lt a0)) (And.intro (cell_be a1 h (cell_lt a1)) (cell_be a2 h (cell_lt a2))))
    have FY := Lib.hid (fun (w' : World) (h : Below wr.heap.size wr w') => And.intro (cell_be b0 h (cell_lt b0)) (And.intro (cell_be b1 h (cell_lt b1)) (cell_be b2 h (cell_lt b2))))
    have FV := Lib.hid (fun (w' : World) (h : Below wr.heap.size wr w') => And.intro (cell_be e0 h (cell_lt e0)) (And.intro (cell_be e1 h (cell_lt e1)) (cell_be e2 h (cell_lt e2))))
    have hex : (decide ((v.k : Int) = (x.k : Int)) && (decide (v.n = x.n) && decide (v.t = x.t))) = decide (v = x) := eq_parts v x
    have hey : (decide ((v.k : Int) = (y.k : Int)) && (decide (v.n = y.n) && decide (v.t = y.t))) = decide (v = y) := eq_parts v y
    clear hv0 e hvm hless L1 L2
    cases lb
    · cases gb
      · go_wp2_with fail
        refine ah_start 10 (fun w' => Below wr.heap.size wr w') rfl (by kernel_rfl) (Below.refl _ _).drew ?_ ; intro hS
        (refine mv_val 0 (v := ?_) rfl (by kernel_rfl) (by kernel_rfl) (by kernel_rfl) (fun _ _ _ h => h) (by rfl) hS ?_ ?_; rotate_left; (focus (intro w hSw; (try dsimp only at hSw); (obtain ⟨f1, f2, f3⟩ := FX.out w hSw; obtain ⟨f4, f5, f6⟩ := FV.out w hSw; have f7 := hkI; have f8 := hlt); go_simp; first | done | with_reducible rfl)); simp only [Act.put, List.setIfInBounds_toArray, List.set_cons_zero, List.set_cons_succ])
        (refine mv_val 1 (v := ?_) rfl (by kernel_rfl) (by kernel_rfl) (by kernel_rfl) (fun _ _ _ h => h) (by rfl) hS ?_ ?_; rotate_left; (focus (intro w hSw; (try dsimp only at hSw); (obtain ⟨f1, f2, f3⟩ := FX.out w hSw; obtain ⟨f4, f5, f6⟩ := FV.out w hSw; have f7 := hkI; have f8 := hlt); go_simp; first | done | with_reducible rfl)); simp only [Act.put, List.setIfInBounds_toArray, List.set_cons_zero, List.set_cons_succ])
        (refine mv_val 2 (v := ?_) rfl (by kernel_rfl) (by kernel_rfl) (by kernel_rfl) (fun _ _ _ h => h) (by rfl) hS ?_ ?_; rotate_left; (focus (intro w hSw; (try dsimp only at hSw); (obtain ⟨f1, f2, f3⟩ := FX.out w hSw; obtain ⟨f4, f5, f6⟩ := FV.out w hSw; have f7 := hkI; have f8 := hlt); go_simp; first | done | with_reducible rfl)); simp only [Act.put, List.setIfInBounds_toArray, List.set_cons_zero, List.set_cons_succ])
        (refine mv_val 3 (v := ?_) rfl (by kernel_rfl) (by kernel_rfl) (by kernel_rfl) (fun _ _ _ h => h) (by rfl) hS ?_ ?_; rotate_left; (focus (intro w hSw; (try dsimp only at hSw); (obtain ⟨f1, f2, f3⟩ := FX.out w hSw; obtain ⟨f4, f5, f6⟩ := FV.out w hSw; have f7 := hkI; have f8 := hlt); go_simp; first | done | with_reducible rfl)); simp only [Act.put, List.setIfInBounds_toArray, List.set_cons_zero, List.set_cons_succ])
        (refine mv_val 4 (v := ?_) rfl (by kernel_rfl) (by kernel_rfl) (by kernel_rfl) (fun _ _ _ h => h) (by rfl) hS ?_ ?_; rotate_left; (focus (intro w hSw; (try dsimp only at hSw); (obtain ⟨f1, f2, f3⟩ := FX.out w hSw; obtain ⟨f4, f5, f6⟩ := FV.out w hSw; have f7 := hkI; have f8 := hlt); go_simp; first | done | with_reducible rfl)); simp only [Act.put, List.setIfInBounds_toArray, List.set_cons_zero, List.set_cons_succ])
        (refine mv_val 5 (v := ?_) rfl (by kernel_rfl) (by kernel_rfl) (by kernel_rfl) (fun _ _ _ h => h) (by rfl) hS ?_ ?_; rotate_left; (focus (intro w hSw; (try dsimp only at hSw); (obtain ⟨f1, f2, f3⟩ := FX.out w hSw; obtain ⟨f4, f5, f6⟩ := FV.out w hSw; have f7 := hkI; have f8 := hlt); go_simp; first | done | with_reducible rfl)); simp only [Act.put, List.setIfInBounds_toArray, List.set_cons_zero, List.set_cons_succ])
        (refine mv_val 6 (v := ?_) rfl (by kernel_rfl) (by kernel_rfl) (by kernel_rfl) (fun _ _ _ h => h) (by rfl) hS ?_ ?_; rotate_left; (focus (intro w hSw; (try dsimp only at hSw); (obtain ⟨f1, f2, f3⟩ := FX.out w hSw; obtain ⟨f4, f5, f6⟩ := FV.out w hSw; have f7 := hkI; have f8 := hlt); go_simp; first | done | with_reducible rfl)); simp only [Act.put, List.setIfInBounds_toArray, List.set_cons_zero, List.set_cons_succ])
        (refine mv_val 7 (v := ?_) rfl (by kernel_rfl) (by kernel_rfl) (by kernel_rfl) (fun _ _ _ h => h) (by rfl) hS ?_ ?_; rotate_left; (focus (intro w hSw; (try dsimp only at hSw); (obtain ⟨f1, f2, f3⟩ := FX.out w hSw; obtain ⟨f4, f5, f6⟩ := FV.out w hSw; have f7 := hkI; have f8 := hlt); go_simp; first | done | with_reducible rfl)); simp only [Act.put, List.setIfInBounds_toArray, List.set_cons_zero, List.set_cons_succ])
        (refine mv_val 8 (v := ?_) rfl (by kernel_rfl) (by kernel_rfl) (by kernel_rfl) (fun _ _ _ h => h) (by rfl) hS ?_ ?_; rotate_left; (focus (intro w hSw; (try dsimp only at hSw); (obtain ⟨f1, f2, f3⟩ := FX.out w hSw; obtain ⟨f4, f5, f6⟩ := FV.out w hSw; have f7 := hkI; have f8 := hlt); go_simp; first | done | with_reducible rfl)); simp only [Act.put, List.setIfInBounds_toArray, List.set_cons_zero, List.set_cons_succ])
        (refine mv_val 9 (v := ?_) rfl (by kernel_rfl) (by kernel_rfl) (by kernel_rfl) (fun _ _ _ h => h) (by rfl) hS ?_ ?_; rotate_left; (focus (intro w hSw; (try dsimp only at hSw); (obtain ⟨f1, f2, f3⟩ := FX.out w hSw; obtain ⟨f4, f5, f6⟩ := FV.out w hSw; have f7 := hkI; have f8 := hlt); go_simp; first | done | with_reducible rfl)); simp only [Act.put, List.setIfInBounds_toArray, List.set_cons_zero, List.set_cons_succ])
        refine wpAnyH_done (by kernel_rfl) ?_ _
        go_wp2_with fail
        refine ah_start 10 (fun w' => Below wr.heap.size wr w') rfl (by kernel_rfl) hS.drew ?_ ; clear hS; intro hS
        (refine mv_val 0 (v := ?_) rfl (by kernel_rfl) (by kernel_rfl) (by kernel_rfl) (fun _ _ _ h => h) (by rfl) hS ?_ ?_; rotate_left; (focus (intro w hSw; (try dsimp only at hSw); (obtain ⟨f1', f2', f3'⟩ := FY.out w hSw; obtain ⟨f4, f5, f6⟩ := FV.out w hSw; have f7 := hkI; have f8 := hlt); go_simp; first | done | with_reducible rfl)); simp only [Act.put, List.setIfInBounds_toArray, List.set_cons_zero, List.set_cons_succ])
        (refine mv_val 1 (v := ?_) rfl (by kernel_rfl) (by kernel_rfl) (by kernel_rfl) (fun _ _ _ h => h) (by rfl) hS ?_ ?_; rotate_left; (focus (intro w hSw; (try dsimp only at hSw); (obtain ⟨f1', f2', f3'⟩ := FY.out w hSw; obtain ⟨f4, f5, f6⟩ := FV.out w hSw; have f7 := hkI; have f8 := hlt); go_simp; first | done | with_reducible rfl)); simp only [Act.put, List.setIfInBounds_toArray, List.set_cons_zero, List.set_cons_succ])
        (refine mv_val 2 (v := ?_) rfl (by kernel_rfl) (by kernel_rfl) (by kernel_rfl) (fun _ _ _ h => h) (by rfl) hS ?_ ?_; rotate_left; (focus (intro w hSw; (try dsimp only at hSw); (obtain ⟨f1', f2', f3'⟩ := FY.out w hSw; obtain ⟨f4, f5, f6⟩ := FV.out w hSw; have f7 := hkI; have f8 := hlt); go_simp; first | done | with_reducible rfl)); simp only [Act.put, List.setIfInBounds_toArray, List.set_cons_zero, List.set_cons_succ])
        (refine mv_val 3 (v := ?_) rfl (by kernel_rfl) (by kernel_rfl) (by kernel_rfl) (fun _ _ _ h => h) (by rfl) hS ?_ ?_; rotate_left; (focus (intro w hSw; (try dsimp only at hSw); (obtain ⟨f1', f2', f3'⟩ := FY.out w hSw; obtain ⟨f4, f5, f6⟩ := FV.out w hSw; have f7 := hkI; have f8 := hlt); go_simp; first | done | with_reducible rfl)); simp only [Act.put, List.setIfInBounds_toArray, List.set_cons_zero, List.set_cons_succ])
        (refine mv_val 4 (v := ?_) rfl (by kernel_rfl) (by kernel_rfl) (by kernel_rfl) (fun _ _ _ h => h) (by rfl) hS ?_ ?_; rotate_left; (focus (intro w hSw; (try dsimp only at hSw); (obtain ⟨f1', f2', f3'⟩ := FY.out w hSw; obtain ⟨f4, f5, f6⟩ := FV.out w hSw; have f7 := hkI; have f8 := hlt); go_simp; first | done | with_reducible rfl)); simp only [Act.put, List.setIfInBounds_toArray, List.set_cons_zero, List.set_cons_succ])
        (refine mv_val 5 (v := ?_) rfl (by kernel_rfl) (by kernel_rfl) (by kernel_rfl) (fun _ _ _ h => h) (by rfl) hS ?_ ?_; rotate_left; (focus (intro w hSw; (try dsimp only at hSw); (obtain ⟨f1', f2', f3'⟩ := FY.out w hSw; obtain ⟨f4, f5, f6⟩ := FV.out w hSw; have f7 := hkI; have f8 := hlt); go_simp; first | done | with_reducible rfl)); simp only [Act.put, List.setIfInBounds_toArray, List.set_cons_zero, List.set_cons_succ])
        (refine mv_val 6 (v := ?_) rfl (by kernel_rfl) (by kernel_rfl) (by kernel_rfl) (fun _ _ _ h => h) (by rfl) hS ?_ ?_; rotate_left; (focus (intro w hSw; (try dsimp only at hSw); (obtain ⟨f1', f2', f3'⟩ := FY.out w hSw; obtain ⟨f4, f5, f6⟩ := FV.out w hSw; have f7 := hkI; have f8 := hlt); go_simp; first | done | with_reducible rfl)); simp only [Act.put, List.setIfInBounds_toArray, List.set_cons_zero, List.set_cons_succ])
        (refine mv_val 7 (v := ?_) rfl (by kernel_rfl) (by kernel_rfl) (by kernel_rfl) (fun _ _ _ h => h) (by rfl) hS ?_ ?_; rotate_left; (focus (intro w hSw; (try dsimp only at hSw); (obtain ⟨f1', f2', f3'⟩ := FY.out w hSw; obtain ⟨f4, f5, f6⟩ := FV.out w hSw; have f7 := hkI; have f8 := hlt); go_simp; first | done | with_reducible rfl)); simp only [Act.put, List.setIfInBounds_toArray, List.set_cons_zero, List.set_cons_succ])
        (refine mv_val 8 (v := ?_) rfl (by kernel_rfl) (by kernel_rfl) (by kernel_rfl) (fun _ _ _ h => h) (by rfl) hS ?_ ?_; rotate_left; (focus (intro w hSw; (try dsimp only at hSw); (obtain ⟨f1', f2', f3'⟩ := FY.out w hSw; obtain ⟨f4, f5, f6⟩ := FV.out w hSw; have f7 := hkI; have f8 := hlt); go_simp; first | done | with_reducible rfl)); simp only [Act.put, List.setIfInBounds_toArray, List.set_cons_zero, List.set_cons_succ])
        (refine mv_val 9 (v := ?_) rfl (by kernel_rfl) (by kernel_rfl) (by kernel_rfl) (fun _ _ _ h => h) (by rfl) hS ?_ ?_; rotate_left; (focus (intro w hSw; (try dsimp only at hSw); (obtain ⟨f1', f2', f3'⟩ := FY.out w hSw; obtain ⟨f4, f5, f6⟩ := FV.out w hSw; have f7 := hkI; have f8 := hlt); go_simp; first | done | with_reducible rfl)); simp only [Act.put, List.setIfInBounds_toArray, List.set_cons_zero, List.set_cons_succ])
        refine wpAnyH_done (by kernel_rfl) ?_ _
        go_wp2_with fail
        refine ah_start 14 (fun w' => Below wr.heap.size wr w') rfl (by kernel_rfl) hS.drew ?_ ; clear hS; intro hS
        (refine mv_val 0 (v := ?_) rfl (by kernel_rfl) (by kernel_rfl) (by kernel_rfl) (fun _ _ _ h => h) (by rfl) hS ?_ ?_; rotate_left; (focus (intro w hSw; (try dsimp only at hSw); (obtain ⟨f1, f2, f3⟩ := FX.out w hSw; obtain ⟨f1', f2', f3'⟩ := FY.out w hSw; obtain ⟨f4, f5, f6⟩ := FV.out w hSw; have f7 := hkI; have f8 := hlt); go_simp; first | done | with_reducible rfl)); simp only [Act.put, List.setIfInBounds_toArray, List.set_cons_zero, List.set_cons_succ])
        (refine mv_val 1 (v := ?_) rfl (by kernel_rfl) (by kernel_rfl) (by kernel_rfl) (fun _ _ _ h => h) (by rfl) hS ?_ ?_; rotate_left; (focus (intro w hSw; (try dsimp only at hSw); (obtain ⟨f1, f2, f3⟩ := FX.out w hSw; obtain ⟨f1', f2', f3'⟩ := FY.out w hSw; obtain ⟨f4, f5, f6⟩ := FV.out w hSw; have f7 := hkI; have f8 := hlt); go_simp; first | done | with_reducible rfl)); simp only [Act.put, List.setIfInBounds_toArray, List.set_cons_zero, List.set_cons_succ])
        (refine mv_val 2 (v := ?_) rfl (by kernel_rfl) (by kernel_rfl) (by kernel_rfl) (fun _ _ _ h => h) (by rfl) hS ?_ ?_; rotate_left; (focus (intro w hSw; (try dsimp only at hSw); (obtain ⟨f1, f2, f3⟩ := FX.out w hSw; obtain ⟨f1', f2', f3'⟩ := FY.out w hSw; obtain ⟨f4, f5, f6⟩ := FV.out w hSw; have f7 := hkI; have f8 := hlt); go_simp; first | done | with_reducible rfl)); simp only [Act.put, List.setIfInBounds_toArray, List.set_cons_zero, List.set_cons_succ])
        (refine mv_val 3 (v := ?_) rfl (by kernel_rfl) (by kernel_rfl) (by kernel_rfl) (fun _ _ _ h => h) (by rfl) hS ?_ ?_; rotate_left; (focus (intro w hSw; (try dsimp only at hSw); (obtain ⟨f1, f2, f3⟩ := FX.out w hSw; obtain ⟨f1', f2', f3'⟩ := FY.out w hSw; obtain ⟨f4, f5, f6⟩ := FV.out w hSw; have f7 := hkI; have f8 := hlt); go_simp; first | done | with_reducible rfl)); simp only [Act.put, List.setIfInBounds_toArray, List.set_cons_zero, List.set_cons_succ])
        (refine mv_val 4 (v := ?_) rfl (by kernel_rfl) (by kernel_rfl) (by kernel_rfl) (fun _ _ _ h => h) (by rfl) hS ?_ ?_; rotate_left; (focus (intro w hSw; (try dsimp only at hSw); (obtain ⟨f1, f2, f3⟩ := FX.out w hSw; obtain ⟨f1', f2', f3'⟩ := FY.out w hSw; obtain ⟨f4, f5, f6⟩ := FV.out w hSw; have f7 := hkI; have f8 := hlt); go_simp; first | done | with_reducible rfl)); simp only [Act.put, List.setIfInBounds_toArray, List.set_cons_zero, List.set_cons_succ])
        (refine mv_call 5 (f := ?_) (args := ?_) rfl (by kernel_rfl) (by rfl) ?_ ?_; rotate_left 2; (focus (go_simp; first | done | with_reducible rfl | (refine ⟨?_, ?_⟩ <;> with_reducible rfl))))
        refine (HL1.out _).mono ?_; rintro e w4 ⟨rfl, hb4⟩
        have hS4 : Below wr.heap.size wr w4 := hS.trans (hb4.mono hS.size)
        refine ⟨_, rfl, hS4, ?_⟩
        replace hS := hS4
        clear hS4
        simp only [Act.put, List.setIfInBounds_toArray, List.set_cons_zero, List.set_cons_succ]
        (refine mv_val 6 (v := ?_) rfl (by kernel_rfl) (by kernel_rfl) (by kernel_rfl) (fun _ _ _ h => h) (by rfl) hS ?_ ?_; rotate_left; (focus (intro w hSw; (try dsimp only at hSw); (obtain ⟨f1, f2, f3⟩ := FX.out w hSw; obtain ⟨f1', f2', f3'⟩ := FY.out w hSw; obtain ⟨f4, f5, f6⟩ := FV.out w hSw; have f7 := hkI; have f8 := hlt); go_simp; first | done | with_reducible rfl)); simp only [Act.put, List.setIfInBounds_toArray, List.set_cons_zero, List.set_cons_succ])
        (refine mv_val 7 (v := ?_) rfl (by kernel_rfl) (by kernel_rfl) (by kernel_rfl) (fun _ _ _ h => h) (by rfl) hS ?_ ?_; rotate_left; (focus (intro w hSw; (try dsimp only at hSw); (obtain ⟨f1, f2, f3⟩ := FX.out w hSw; obtain ⟨f1', f2', f3'⟩ := FY.out w hSw; obtain ⟨f4, f5, f6⟩ := FV.out w hSw; have f7 := hkI; have f8 := hlt); go_simp; first | done | with_reducible rfl)); simp only [Act.put, List.setIfInBounds_toArray, List.set_cons_zero, List.set_cons_succ])
        (refine mv_val 8 (v := ?_) rfl (by kernel_rfl) (by kernel_rfl) (by kernel_rfl) (fun _ _ _ h => h) (by rfl) hS ?_ ?_; rotate_left; (focus (intro w hSw; (try dsimp only at hSw); (obtain ⟨f1, f2, f3⟩ := FX.out w hSw; obtain ⟨f1', f2', f3'⟩ := FY.out w hSw; obtain ⟨f4, f5, f6⟩ := FV.out w hSw; have f7 := hkI; have f8 := hlt); go_simp; first | done | with_reducible rfl)); simp only [Act.put, List.setIfInBounds_toArray, List.set_cons_zero, List.set_cons_succ])
        (refine mv_val 9 (v := ?_) rfl (by kernel_rfl) (by kernel_rfl) (by kernel_rfl) (fun _ _ _ h => h) (by rfl) hS ?_ ?_; rotate_left; (focus (intro w hSw; (try dsimp only at hSw); (obtain ⟨f1, f2, f3⟩ := FX.out w hSw; obtain ⟨f1', f2', f3'⟩ := FY.out w hSw; obtain ⟨f4, f5, f6⟩ := FV.out w hSw; have f7 := hkI; have f8 := hlt); go_simp; first | done | with_reducible rfl)); simp only [Act.put, List.setIfInBounds_toArray, List.set_cons_zero, List.set_cons_succ])
        (refine mv_val 10 (v := ?_) rfl (by kernel_rfl) (by kernel_rfl) (by kernel_rfl) (fun _ _ _ h => h) (by rfl) hS ?_ ?_; rotate_left; (focus (intro w hSw; (try dsimp only at hSw); (obtain ⟨f1, f2, f3⟩ := FX.out w hSw; obtain ⟨f1', f2', f3'⟩ := FY.out w hSw; obtain ⟨f4, f5, f6⟩ := FV.out w hSw; have f7 := hkI; have f8 := hlt); go_simp; first | done | with_reducible rfl)); simp only [Act.put, List.setIfInBounds_toArray, List.set_cons_zero, List.set_cons_succ])
        (refine mv_val 11 (v := ?_) rfl (by kernel_rfl) (by kernel_rfl) (by kernel_rfl) (fun _ _ _ h => h) (by rfl) hS ?_ ?_; rotate_left; (focus (intro w hSw; (try dsimp only at hSw); (obtain ⟨f1, f2, f3⟩ := FX.out w hSw; obtain ⟨f1', f2', f3'⟩ := FY.out w hSw; obtain ⟨f4, f5, f6⟩ := FV.out w hSw; have f7 := hkI; have f8 := hlt); go_simp; first | done | with_reducible rfl)); simp only [Act.put, List.setIfInBounds_toArray, List.set_cons_zero, List.set_cons_succ])
        (refine mv_call 12 (f := ?_) (args := ?_) rfl (by kernel_rfl) (by rfl) ?_ ?_; rotate_left 2; (focus (go_simp; first | done | with_reducible rfl | (refine ⟨?_, ?_⟩ <;> with_reducible rfl))))
        refine (HL2.out _).mono ?_; rintro e w6 ⟨rfl, hb6⟩
        have hS4 : Below wr.heap.size wr w6 := hS.trans (hb6.mono hS.size)
        refine ⟨_, rfl, hS4, ?_⟩
        replace hS := hS4
        clear hS4
        simp only [Act.put, List.setIfInBounds_toArray, List.set_cons_zero, List.set_cons_succ]
        (refine mv_val 13 (v := ?_) rfl (by kernel_rfl) (by kernel_rfl) (by kernel_rfl) (fun _ _ _ h => h) (by rfl) hS ?_ ?_; rotate_left; (focus (intro w hSw; (try dsimp only at hSw); (obtain ⟨f1, f2, f3⟩ := FX.out w hSw; obtain ⟨f1', f2', f3'⟩ := FY.out w hSw; obtain ⟨f4, f5, f6⟩ := FV.out w hSw; have f7 := hkI; have f8 := hlt); go_simp; first | done | with_reducible rfl)); simp only [Act.put, List.setIfInBounds_toArray, List.set_cons_zero, List.set_cons_succ])
        refine wpAnyH_done (by kernel_rfl) ?_ _
        have hbf : Below W.heap.size W w6 := hbel.trans (hS.mono hzr)
        have k0 := (hS.block _ (lt_of_block H0.out)).trans H0.out
        have k1 := (hS.block _ (lt_of_block H1'.out)).trans H1'.out
        have K0 := Lib.hid k0
        have K1 := Lib.hid k1
        clear k0 k1 hS
        go_wp2_with fail
        go_roundw
        case rel =>
          refine ⟨k + 1, (decide (v = x)), (decide (v = y)), j + 1, by omega, by go_num, rfl, rfl, by go_num, ?_, ?_, ?_, by omega, K0.out, K1.out, hbf⟩
          · rw [HE.out]; exact mem_more HLB.out
          · rw [HE.out]; exact mem_more HGB.out
          · rw [HE.out, List.length_append, ← HJ.out]; rfl
        case measure => simp [intOf]; omega
      · skip
        go_wp2_with fail
        refine ah_start 10 (fun w' => Below wr.heap.size wr w') rfl (by kernel_rfl) (Below.refl _ _).drew ?_ ; intro hS
        (refine mv_val 0 (v := ?_) rfl (by kernel_rfl) (by kernel_rfl) (by kernel_rfl) (fun _ _ _ h => h) (by rfl) hS ?_ ?_; rotate_left; (focus (intro w hSw; (try dsimp only at hSw); (obtain ⟨f1, f2, f3⟩ := FX.out w hSw; obtain ⟨f4, f5, f6⟩ := FV.out w hSw; have f7 := hkI; have f8 := hlt); go_simp; first | done | with_reducible rfl)); simp only [Act.put, List.setIfInBounds_toArray, List.set_cons_zero, List.set_cons_succ])
        (refine mv_val 1 (v := ?_) rfl (by kernel_rfl) (by kernel_rfl) (by kernel_rfl) (fun _ _ _ h => h) (by rfl) hS ?_ ?_; rotate_left; (focus (intro w hSw; (try dsimp only at hSw); (obtain ⟨f1, f2, f3⟩ := FX.out w hSw; obtain ⟨f4, f5, f6⟩ := FV.out w hSw; have f7 := hkI; have f8 := hlt); go_simp; first | done | with_reducible rfl)); simp only [Act.put, List.setIfInBounds_toArray, List.set_cons_zero, List.set_cons_succ])
        (refine mv_val 2 (v := ?_) rfl (by kernel_rfl) (by kernel_rfl) (by kernel_rfl) (fun _ _ _ h => h) (by rfl) hS ?_ ?_; rotate_left; (focus (intro w hSw; (try dsimp only at hSw); (obtain ⟨f1, f2, f3⟩ := FX.out w hSw; obtain ⟨f4, f5, f6⟩ := FV.out w hSw; have f7 := hkI; have f8 := hlt); go_simp; first | done | with_reducible rfl)); simp only [Act.put, List.setIfInBounds_toArray, List.set_cons_zero, List.set_cons_succ])
        (refine mv_val 3 (v := ?_) rfl (by kernel_rfl) (by kernel_rfl) (by kernel_rfl) (fun _ _ _ h => h) (by rfl) hS ?_ ?_; rotate_left; (focus (intro w hSw; (try dsimp only at hSw); (obtain ⟨f1, f2, f3⟩ := FX.out w hSw; obtain ⟨f4, f5, f6⟩ := FV.out w hSw; have f7 := hkI; have f8 := hlt); go_simp; first | done | with_reducible rfl)); simp only [Act.put, List.setIfInBounds_toArray, List.set_cons_zero, List.set_cons_succ])
        (refine mv_val 4 (v := ?_) rfl (by kernel_rfl) (by kernel_rfl) (by kernel_rfl) (fun _ _ _ h => h) (by rfl) hS ?_ ?_; rotate_left; (focus (intro w hSw; (try dsimp only at hSw); (obtain ⟨f1, f2, f3⟩ := FX.out w hSw; obtain ⟨f4, f5, f6⟩ := FV.out w hSw; have f7 := hkI; have f8 := hlt); go_simp; first | done | with_reducible rfl)); simp only [Act.put, List.setIfInBounds_toArray, List.set_cons_zero, List.set_cons_succ])
        (refine mv_val 5 (v := ?_) rfl (by kernel_rfl) (by kernel_rfl) (by kernel_rfl) (fun _ _ _ h => h) (by rfl) hS ?_ ?_; rotate_left; (focus (intro w hSw; (try dsimp only at hSw); (obtain ⟨f1, f2, f3⟩ := FX.out w hSw; obtain ⟨f4, f5, f6⟩ := FV.out w hSw; have f7 := hkI; have f8 := hlt); go_simp; first | done | with_reducible rfl)); simp only [Act.put, List.setIfInBounds_toArray, List.set_cons_zero, List.set_cons_succ])
        (refine mv_val 6 (v := ?_) rfl (by kernel_rfl) (by kernel_rfl) (by kernel_rfl) (fun _ _ _ h => h) (by rfl) hS ?_ ?_; rotate_left; (focus (intro w hSw; (try dsimp only at hSw); (obtain ⟨f1, f2, f3⟩ := FX.out w hSw; obtain ⟨f4, f5, f6⟩ := FV.out w hSw; have f7 := hkI; have f8 := hlt); go_simp; first | done | with_reducible rfl)); simp only [Act.put, List.setIfInBounds_toArray, List.set_cons_zero, List.set_cons_succ])
        (refine mv_val 7 (v := ?_) rfl (by kernel_rfl) (by kernel_rfl) (by kernel_rfl) (fun _ _ _ h => h) (by rfl) hS ?_ ?_; rotate_left; (focus (intro w hSw; (try dsimp only at hSw); (obtain ⟨f1, f2, f3⟩ := FX.out w hSw; obtain ⟨f4, f5, f6⟩ := FV.out w hSw; have f7 := hkI; have f8 := hlt); go_simp; first | done | with_reducible rfl)); simp only [Act.put, List.setIfInBounds_toArray, List.set_cons_zero, List.set_cons_succ])
        (refine mv_val 8 (v := ?_) rfl (by kernel_rfl) (by kernel_rfl) (by kernel_rfl) (fun _ _ _ h => h) (by rfl) hS ?_ ?_; rotate_left; (focus (intro w hSw; (try dsimp only at hSw); (obtain ⟨f1, f2, f3⟩ := FX.out w hSw; obtain ⟨f4, f5, f6⟩ := FV.out w hSw; have f7 := hkI; have f8 := hlt); go_simp; first | done | with_reducible rfl)); simp only [Act.put, List.setIfInBounds_toArray, List.set_cons_zero, List.set_cons_succ])
        (refine mv_val 9 (v := ?_) rfl (by kernel_rfl) (by kernel_rfl) (by kernel_rfl) (fun _ _ _ h => h) (by rfl) hS ?_ ?_; rotate_left; (focus (intro w hSw; (try dsimp only at hSw); (obtain ⟨f1, f2, f3⟩ := FX.out w hSw; obtain ⟨f4, f5, f6⟩ := FV.out w hSw; have f7 := hkI; have f8 := hlt); go_simp; first | done | with_reducible rfl)); simp only [Act.put, List.setIfInBounds_toArray, List.set_cons_zero, List.set_cons_succ])
        refine wpAnyH_done (by kernel_rfl) ?_ _
        go_wp2_with fail
        refine ah_start 10 (fun w' => Below wr.heap.size wr w') rfl (by kernel_rfl) hS.drew ?_ ; clear hS; intro hS
        (refine mv_val 0 (v := ?_) rfl (by kernel_rfl) (by kernel_rfl) (by kernel_rfl) (fun _ _ _ h => h) (by rfl) hS ?_ ?_; rotate_left; (focus (intro w hSw; (try dsimp only at hSw); (have f7 := hkI; have f8 := hlt); go_simp; first | done | with_reducible rfl)); simp only [Act.put, List.setIfInBounds_toArray, List.set_cons_zero, List.set_cons_succ])
        (refine mv_val 1 (v := ?_) rfl (by kernel_rfl) (by kernel_rfl) (by kernel_rfl) (fun _ _ _ h => h) (by rfl) hS ?_ ?_; rotate_left; (focus (intro w hSw; (try dsimp only at hSw); (have f7 := hkI; have f8 := hlt); go_simp; first | done | with_reducible rfl)); simp only [Act.put, List.setIfInBounds_toArray, List.set_cons_zero, List.set_cons_succ])
        (refine mv_skip 2 rfl (by kernel_rfl) (by kernel_rfl) (by kernel_rfl) (fun _ _ _ h => h) (by rfl) hS ?_; simp only [Act.put, List.setIfInBounds_toArray, List.set_cons_zero, List.set_cons_succ])
        (refine mv_skip 3 rfl (by kernel_rfl) (by kernel_rfl) (by kernel_rfl) (fun _ _ _ h => h) (by rfl) hS ?_; simp only [Act.put, List.setIfInBounds_toArray, List.set_cons_zero, List.set_cons_succ])
        (refine mv_skip 4 rfl (by kernel_rfl) (by kernel_rfl) (by kernel_rfl) (fun _ _ _ h => h) (by rfl) hS ?_; simp only [Act.put, List.setIfInBounds_toArray, List.set_cons_zero, List.set_cons_succ])
        (refine mv_skip 5 rfl (by kernel_rfl) (by kernel_rfl) (by kernel_rfl) (fun _ _ _ h => h) (by rfl) hS ?_; simp only [Act.put, List.setIfInBounds_toArray, List.set_cons_zero, List.set_cons_succ])
        (refine mv_skip 6 rfl (by kernel_rfl) (by kernel_rfl) (by kernel_rfl) (fun _ _ _ h => h) (by rfl) hS ?_; simp only [Act.put, List.setIfInBounds_toArray, List.set_cons_zero, List.set_cons_succ])
        (refine mv_skip 7 rfl (by kernel_rfl) (by kernel_rfl) (by kernel_rfl) (fun _ _ _ h => h) (by rfl) hS ?_; simp only [Act.put, List.setIfInBounds_toArray, List.set_cons_zero, List.set_cons_succ])
        (refine mv_val 8 (v := ?_) rfl (by kernel_rfl) (by kernel_rfl) (by kernel_rfl) (fun _ _ _ h => h) (by rfl) hS ?_ ?_; rotate_left; (focus (intro w hSw; (try dsimp only at hSw); (have f7 := hkI; have f8 := hlt); go_simp; first | done | with_reducible rfl)); simp only [Act.put, List.setIfInBounds_toArray, List.set_cons_zero, List.set_cons_succ])
        (refine mv_val 9 (v := ?_) rfl (by kernel_rfl) (by kernel_rfl) (by kernel_rfl) (fun _ _ _ h => h) (by rfl) hS ?_ ?_; rotate_left; (focus (intro w hSw; (try dsimp only at hSw); (have f7 := hkI; have f8 := hlt); go_simp; first | done | with_reducible rfl)); simp only [Act.put, List.setIfInBounds_toArray, List.set_cons_zero, List.set_cons_succ])
        refine wpAnyH_done (by kernel_rfl) ?_ _
        go_wp2_with fail
        refine ah_start 14 (fun w' => Below wr.heap.size wr w') rfl (by kernel_rfl) hS.drew ?_ ; clear hS; intro hS
        (refine mv_val 0 (v := ?_) rfl (by kernel_rfl) (by kernel_rfl) (by kernel_rfl) (fun _ _ _ h => h) (by rfl) hS ?_ ?_; rotate_left; (focus (intro w hSw; (try dsimp only at hSw); (obtain ⟨f1, f2, f3⟩ := FX.out w hSw; obtain ⟨f1', f2', f3'⟩ := FY.out w hSw; obtain ⟨f4, f5, f6⟩ := FV.out w hSw; have f7 := hkI; have f8 := hlt); go_simp; first | done | with_reducible rfl)); simp only [Act.put, List.setIfInBounds_toArray, List.set_cons_zero, List.set_cons_succ])
        (refine mv_val 1 (v := ?_) rfl (by kernel_rfl) (by kernel_rfl) (by kernel_rfl) (fun _ _ _ h => h) (by rfl) hS ?_ ?_; rotate_left; (focus (intro w hSw; (try dsimp only at hSw); (obtain ⟨f1, f2, f3⟩ := FX.out w hSw; obtain ⟨f1', f2', f3'⟩ := FY.out w hSw; obtain ⟨f4, f5, f6⟩ := FV.out w hSw; have f7 := hkI; have f8 := hlt); go_simp; first | done | with_reducible rfl)); simp only [Act.put, List.setIfInBounds_toArray, List.set_cons_zero, List.set_cons_succ])
        (refine mv_val 2 (v := ?_) rfl (by kernel_rfl) (by kernel_rfl) (by kernel_rfl) (fun _ _ _ h => h) (by rfl) hS ?_ ?_; rotate_left; (focus (intro w hSw; (try dsimp only at hSw); (obtain ⟨f1, f2, f3⟩ := FX.out w hSw; obtain ⟨f1', f2', f3'⟩ := FY.out w hSw; obtain ⟨f4, f5, f6⟩ := FV.out w hSw; have f7 := hkI; have f8 := hlt); go_simp; first | done | with_reducible rfl)); simp only [Act.put, List.setIfInBounds_toArray, List.set_cons_zero, List.set_cons_succ])
        (refine mv_val 3 (v := ?_) rfl (by kernel_rfl) (by kernel_rfl) (by kernel_rfl) (fun _ _ _ h => h) (by rfl) hS ?_ ?_; rotate_left; (focus (intro w hSw; (try dsimp only at hSw); (obtain ⟨f1, f2, f3⟩ := FX.out w hSw; obtain ⟨f1', f2', f3'⟩ := FY.out w hSw; obtain ⟨f4, f5, f6⟩ := FV.out w hSw; have f7 := hkI; have f8 := hlt); go_simp; first | done | with_reducible rfl)); simp only [Act.put, List.setIfInBounds_toArray, List.set_cons_zero, List.set_cons_succ])
        (refine mv_val 4 (v := ?_) rfl (by kernel_rfl) (by kernel_rfl) (by kernel_rfl) (fun _ _ _ h => h) (by rfl) hS ?_ ?_; rotate_left; (focus (intro w hSw; (try dsimp only at hSw); (obtain ⟨f1, f2, f3⟩ := FX.out w hSw; obtain ⟨f1', f2', f3'⟩ := FY.out w hSw; obtain ⟨f4, f5, f6⟩ := FV.out w hSw; have f7 := hkI; have f8 := hlt); go_simp; first | done | with_reducible rfl)); simp only [Act.put, List.setIfInBounds_toArray, List.set_cons_zero, List.set_cons_succ])
        (refine mv_call 5 (f := ?_) (args := ?_) rfl (by kernel_rfl) (by rfl) ?_ ?_; rotate_left 2; (focus (go_simp; first | done | with_reducible rfl | (refine ⟨?_, ?_⟩ <;> with_reducible rfl))))
        refine (HL1.out _).mono ?_; rintro e w4 ⟨rfl, hb4⟩
        have hS4 : Below wr.heap.size wr w4 := hS.trans (hb4.mono hS.size)
        refine ⟨_, rfl, hS4, ?_⟩
        replace hS := hS4
        clear hS4
        simp only [Act.put, List.setIfInBounds_toArray, List.set_cons_zero, List.set_cons_succ]
        (refine mv_val 6 (v := ?_) rfl (by kernel_rfl) (by kernel_rfl) (by kernel_rfl) (fun _ _ _ h => h) (by rfl) hS ?_ ?_; rotate_left; (focus (intro w hSw; (try dsimp only at hSw); (obtain ⟨f1, f2, f3⟩ := FX.out w hSw; obtain ⟨f1', f2', f3'⟩ := FY.out w hSw; obtain ⟨f4, f5, f6⟩ := FV.out w hSw; have f7 := hkI; have f8 := hlt); go_simp; first | done | with_reducible rfl)); simp only [Act.put, List.setIfInBounds_toArray, List.set_cons_zero, List.set_cons_succ])
        (refine mv_val 7 (v := ?_) rfl (by kernel_rfl) (by kernel_rfl) (by kernel_rfl) (fun _ _ _ h => h) (by rfl) hS ?_ ?_; rotate_left; (focus (intro w hSw; (try dsimp only at hSw); (obtain ⟨f1, f2, f3⟩ := FX.out w hSw; obtain ⟨f1', f2', f3'⟩ := FY.out w hSw; obtain ⟨f4, f5, f6⟩ := FV.out w hSw; have f7 := hkI; have f8 := hlt); go_simp; first | done | with_reducible rfl)); simp only [Act.put, List.setIfInBounds_toArray, List.set_cons_zero, List.set_cons_succ])
        (refine mv_val 8 (v := ?_) rfl (by kernel_rfl) (by kernel_rfl) (by kernel_rfl) (fun _ _ _ h => h) (by rfl) hS ?_ ?_; rotate_left; (focus (intro w hSw; (try dsimp only at hSw); (obtain ⟨f1, f2, f3⟩ := FX.out w hSw; obtain ⟨f1', f2', f3'⟩ := FY.out w hSw; obtain ⟨f4, f5, f6⟩ := FV.out w hSw; have f7 := hkI; have f8 := hlt); go_simp; first | done | with_reducible rfl)); simp only [Act.put, List.setIfInBounds_toArray, List.set_cons_zero, List.set_cons_succ])
        (refine mv_val 9 (v := ?_) rfl (by kernel_rfl) (by kernel_rfl) (by kernel_rfl) (fun _ _ _ h => h) (by rfl) hS ?_ ?_; rotate_left; (focus (intro w hSw; (try dsimp only at hSw); (obtain ⟨f1, f2, f3⟩ := FX.out w hSw; obtain ⟨f1', f2', f3'⟩ := FY.out w hSw; obtain ⟨f4, f5, f6⟩ := FV.out w hSw; have f7 := hkI; have f8 := hlt); go_simp; first | done | with_reducible rfl)); simp only [Act.put, List.setIfInBounds_toArray, List.set_cons_zero, List.set_cons_succ])
        (refine mv_val 10 (v := ?_) rfl (by kernel_rfl) (by kernel_rfl) (by kernel_rfl) (fun _ _ _ h => h) (by rfl) hS ?_ ?_; rotate_left; (focus (intro w hSw; (try dsimp only at hSw); (obtain ⟨f1, f2, f3⟩ := FX.out w hSw; obtain ⟨f1', f2', f3'⟩ := FY.out w hSw; obtain ⟨f4, f5, f6⟩ := FV.out w hSw; have f7 := hkI; have f8 := hlt); go_simp; first | done | with_reducible rfl)); simp only [Act.put, List.setIfInBounds_toArray, List.set_cons_zero, List.set_cons_succ])
        (refine mv_val 11 (v := ?_) rfl (by kernel_rfl) (by kernel_rfl) (by kernel_rfl) (fun _ _ _ h => h) (by rfl) hS ?_ ?_; rotate_left; (focus (intro w hSw; (try dsimp only at hSw); (obtain ⟨f1, f2, f3⟩ := FX.out w hSw; obtain ⟨f1', f2', f3'⟩ := FY.out w hSw; obtain ⟨f4, f5, f6⟩ := FV.out w hSw; have f7 := hkI; have f8 := hlt); go_simp; first | done | with_reducible rfl)); simp only [Act.put, List.setIfInBounds_toArray, List.set_cons_zero, List.set_cons_succ])
        (refine mv_call 12 (f := ?_) (args := ?_) rfl (by kernel_rfl) (by rfl) ?_ ?_; rotate_left 2; (focus (go_simp; first | done | with_reducible rfl | (refine ⟨?_, ?_⟩ <;> with_reducible rfl))))
        refine (HL2.out _).mono ?_; rintro e w6 ⟨rfl, hb6⟩
        have hS4 : Below wr.heap.size wr w6 := hS.trans (hb6.mono hS.size)
        refine ⟨_, rfl, hS4, ?_⟩
        replace hS := hS4
        clear hS4
        simp only [Act.put, List.setIfInBounds_toArray, List.set_cons_zero, List.set_cons_succ]
        (refine mv_val 13 (v := ?_) rfl (by kernel_rfl) (by kernel_rfl) (by kernel_rfl) (fun _ _ _ h => h) (by rfl) hS ?_ ?_; rotate_left; (focus (intro w hSw; (try dsimp only at hSw); (obtain ⟨f1, f2, f3⟩ := FX.out w hSw; obtain ⟨f1', f2', f3'⟩ := FY.out w hSw; obtain ⟨f4, f5, f6⟩ := FV.out w hSw; have f7 := hkI; have f8 := hlt); go_simp; first | done | with_reducible rfl)); simp only [Act.put, List.setIfInBounds_toArray, List.set_cons_zero, List.set_cons_succ])
        refine wpAnyH_done (by kernel_rfl) ?_ _
        have hbf : Below W.heap.size W w6 := hbel.trans (hS.mono hzr)
        have k0 := (hS.block _ (lt_of_block H0.out)).trans H0.out
        have k1 := (hS.block _ (lt_of_block H1'.out)).trans H1'.out
        have K0 := Lib.hid k0
        have K1 := Lib.hid k1
        clear k0 k1 hS
        go_wp2_with fail
        go_roundw
        case rel =>
          refine ⟨k + 1, (decide (v = x)), true, j + 1, by omega, by go_num, rfl, rfl, by go_num, ?_, ?_, ?_, by omega, K0.out, K1.out, hbf⟩
          · rw [HE.out]; exact mem_more HLB.out
          · rw [HE.out]; exact mem_yes HGB.out
          · rw [HE.out, List.length_append, ← HJ.out]; rfl
        case measure => simp [intOf]; omega
    · cases gb
      · go_wp2_with fail
        refine ah_start 10 (fun w' => Below wr.heap.size wr w') rfl (by kernel_rfl) (Below.refl _ _).drew ?_ ; intro hS
        (refine mv_val 0 (v := ?_) rfl (by kernel_rfl) (by kernel_rfl) (by kernel_rfl) (fun _ _ _ h => h) (by rfl) hS ?_ ?_; rotate_left; (focus (intro w hSw; (try dsimp only at hSw); (have f7 := hkI; have f8 := hlt); go_simp; first | done | with_reducible rfl)); simp only [Act.put, List.setIfInBounds_toArray, List.set_cons_zero, List.set_cons_succ])
        (refine mv_val 1 (v := ?_) rfl (by kernel_rfl) (by kernel_rfl) (by kernel_rfl) (fun _ _ _ h => h) (by rfl) hS ?_ ?_; rotate_left; (focus (intro w hSw; (try dsimp only at hSw); (have f7 := hkI; have f8 := hlt); go_simp; first | done | with_reducible rfl)); simp only [Act.put, List.setIfInBounds_toArray, List.set_cons_zero, List.set_cons_succ])
        (refine mv_skip 2 rfl (by kernel_rfl) (by kernel_rfl) (by kernel_rfl) (fun _ _ _ h => h) (by rfl) hS ?_; simp only [Act.put, List.setIfInBounds_toArray, List.set_cons_zero, List.set_cons_succ])
        (refine mv_skip 3 rfl (by kernel_rfl) (by kernel_rfl) (by kernel_rfl) (fun _ _ _ h => h) (by rfl) hS ?_; simp only [Act.put, List.setIfInBounds_toArray, List.set_cons_zero, List.set_cons_succ])
        (refine mv_skip 4 rfl (by kernel_rfl) (by kernel_rfl) (by kernel_rfl) (fun _ _ _ h => h) (by rfl) hS ?_; simp only [Act.put, List.setIfInBounds_toArray, List.set_cons_zero, List.set_cons_succ])
        (refine mv_skip 5 rfl (by kernel_rfl) (by kernel_rfl) (by kernel_rfl) (fun _ _ _ h => h) (by rfl) hS ?_; simp only [Act.put, List.setIfInBounds_toArray, List.set_cons_zero, List.set_cons_succ])
        (refine mv_skip 6 rfl (by kernel_rfl) (by kernel_rfl) (by kernel_rfl) (fun _ _ _ h => h) (by rfl) hS ?_; simp only [Act.put, List.setIfInBounds_toArray, List.set_cons_zero, List.set_cons_succ])
        (refine mv_skip 7 rfl (by kernel_rfl) (by kernel_rfl) (by kernel_rfl) (fun _ _ _ h => h) (by rfl) hS ?_; simp only [Act.put, List.setIfInBounds_toArray, List.set_cons_zero, List.set_cons_succ])
        (refine mv_val 8 (v := ?_) rfl (by kernel_rfl) (by kernel_rfl) (by kernel_rfl) (fun _ _ _ h => h) (by rfl) hS ?_ ?_; rotate_left; (focus (intro w hSw; (try dsimp only at hSw); (have f7 := hkI; have f8 := hlt); go_simp; first | done | with_reducible rfl)); simp only [Act.put, List.setIfInBounds_toArray, List.set_cons_zero, List.set_cons_succ])
        (refine mv_val 9 (v := ?_) rfl (by kernel_rfl) (by kernel_rfl) (by kernel_rfl) (fun _ _ _ h => h) (by rfl) hS ?_ ?_; rotate_left; (focus (intro w hSw; (try dsimp only at hSw); (have f7 := hkI; have f8 := hlt); go_simp; first | done | with_reducible rfl)); simp only [Act.put, List.setIfInBounds_toArray, List.set_cons_zero, List.set_cons_succ])
        refine wpAnyH_done (by kernel_rfl) ?_ _
        go_wp2_with fail
        refine ah_start 10 (fun w' => Below wr.heap.size wr w') rfl (by kernel_rfl) hS.drew ?_ ; clear hS; intro hS
        (refine mv_val 0 (v := ?_) rfl (by kernel_rfl) (by kernel_rfl) (by kernel_rfl) (fun _ _ _ h => h) (by rfl) hS ?_ ?_; rotate_left; (focus (intro w hSw; (try dsimp only at hSw); (obtain ⟨f1', f2', f3'⟩ := FY.out w hSw; obtain ⟨f4, f5, f6⟩ := FV.out w hSw; have f7 := hkI; have f8 := hlt); go_simp; first | done | with_reducible rfl)); simp only [Act.put, List.setIfInBounds_toArray, List.set_cons_zero, List.set_cons_succ])
        (refine mv_val 1 (v := ?_) rfl (by kernel_rfl) (by kernel_rfl) (by kernel_rfl) (fun _ _ _ h => h) (by rfl) hS ?_ ?_; rotate_left; (focus (intro w hSw; (try dsimp only at hSw); (obtain ⟨f1', f2', f3'⟩ := FY.out w hSw; obtain ⟨f4, f5, f6⟩ := FV.out w hSw; have f7 := hkI; have f8 := hlt); go_simp; first | done | with_reducible rfl)); simp only [Act.put, List.setIfInBounds_toArray, List.set_cons_zero, List.set_cons_succ])
        (refine mv_val 2 (v := ?_) rfl (by kernel_rfl) (by kernel_rfl) (by kernel_rfl) (fun _ _ _ h => h) (by rfl) hS ?_ ?_; rotate_left; (focus (intro w hSw; (try dsimp only at hSw); (obtain ⟨f1', f2', f3'⟩ := FY.out w hSw; obtain ⟨f4, f5, f6⟩ := FV.out w hSw; have f7 := hkI; have f8 := hlt); go_simp; first | done | with_reducible rfl)); simp only [Act.put, List.setIfInBounds_toArray, List.set_cons_zero, List.set_cons_succ])
        (refine mv_val 3 (v := ?_) rfl (by kernel_rfl) (by kernel_rfl) (by kernel_rfl) (fun _ _ _ h => h) (by rfl) hS ?_ ?_; rotate_left; (focus (intro w hSw; (try dsimp only at hSw); (obtain ⟨f1', f2', f3'⟩ := FY.out w hSw; obtain ⟨f4, f5, f6⟩ := FV.out w hSw; have f7 := hkI; have f8 := hlt); go_simp; first | done | with_reducible rfl)); simp only [Act.put, List.setIfInBounds_toArray, List.set_cons_zero, List.set_cons_succ])
        (refine mv_val 4 (v := ?_) rfl (by kernel_rfl) (by kernel_rfl) (by kernel_rfl) (fun _ _ _ h => h) (by rfl) hS ?_ ?_; rotate_left; (focus (intro w hSw; (try dsimp only at hSw); (obtain ⟨f1', f2', f3'⟩ := FY.out w hSw; obtain ⟨f4, f5, f6⟩ := FV.out w hSw; have f7 := hkI; have f8 := hlt); go_simp; first | done | with_reducible rfl)); simp only [Act.put, List.setIfInBounds_toArray, List.set_cons_zero, List.set_cons_succ])
        (refine mv_val 5 (v := ?_) rfl (by kernel_rfl) (by kernel_rfl) (by kernel_rfl) (fun _ _ _ h => h) (by rfl) hS ?_ ?_; rotate_left; (focus (intro w hSw; (try dsimp only at hSw); (obtain ⟨f1', f2', f3'⟩ := FY.out w hSw; obtain ⟨f4, f5, f6⟩ := FV.out w hSw; have f7 := hkI; have f8 := hlt); go_simp; first | done | with_reducible rfl)); simp only [Act.put, List.setIfInBounds_toArray, List.set_cons_zero, List.set_cons_succ])
        (refine mv_val 6 (v := ?_) rfl (by kernel_rfl) (by kernel_rfl) (by kernel_rfl) (fun _ _ _ h => h) (by rfl) hS ?_ ?_; rotate_left; (focus (intro w hSw; (try dsimp only at hSw); (obtain ⟨f1', f2', f3'⟩ := FY.out w hSw; obtain ⟨f4, f5, f6⟩ := FV.out w hSw; have f7 := hkI; have f8 := hlt); go_simp; first | done | with_reducible rfl)); simp only [Act.put, List.setIfInBounds_toArray, List.set_cons_zero, List.set_cons_succ])
        (refine mv_val 7 (v := ?_) rfl (by kernel_rfl) (by kernel_rfl) (by kernel_rfl) (fun _ _ _ h => h) (by rfl) hS ?_ ?_; rotate_left; (focus (intro w hSw; (try dsimp only at hSw); (obtain ⟨f1', f2', f3'⟩ := FY.out w hSw; obtain ⟨f4, f5, f6⟩ := FV.out w hSw; have f7 := hkI; have f8 := hlt); go_simp; first | done | with_reducible rfl)); simp only [Act.put, List.setIfInBounds_toArray, List.set_cons_zero, List.set_cons_succ])
        (refine mv_val 8 (v := ?_) rfl (by kernel_rfl) (by kernel_rfl) (by kernel_rfl) (fun _ _ _ h => h) (by rfl) hS ?_ ?_; rotate_left; (focus (intro w hSw; (try dsimp only at hSw); (obtain ⟨f1', f2', f3'⟩ := FY.out w hSw; obtain ⟨f4, f5, f6⟩ := FV.out w hSw; have f7 := hkI; have f8 := hlt); go_simp; first | done | with_reducible rfl)); simp only [Act.put, List.setIfInBounds_toArray, List.set_cons_zero, List.set_cons_succ])
        (refine mv_val 9 (v := ?_) rfl (by kernel_rfl) (by kernel_rfl) (by kernel_rfl) (fun _ _ _ h => h) (by rfl) hS ?_ ?_; rotate_left; (focus (intro w hSw; (try dsimp only at hSw); (obtain ⟨f1', f2', f3'⟩ := FY.out w hSw; obtain ⟨f4, f5, f6⟩ := FV.out w hSw; have f7 := hkI; have f8 := hlt); go_simp; first | done | with_reducible rfl)); simp only [Act.put, List.setIfInBounds_toArray, List.set_cons_zero, List.set_cons_succ])
        refine wpAnyH_done (by kernel_rfl) ?_ _
        go_wp2_with fail
        refine ah_start 14 (fun w' => Below wr.heap.size wr w') rfl (by kernel_rfl) hS.drew ?_ ; clear hS; intro hS
        (refine mv_val 0 (v := ?_) rfl (by kernel_rfl) (by kernel_rfl) (by kernel_rfl) (fun _ _ _ h => h) (by rfl) hS ?_ ?_; rotate_left; (focus (intro w hSw; (try dsimp only at hSw); (obtain ⟨f1, f2, f3⟩ := FX.out w hSw; obtain ⟨f1', f2', f3'⟩ := FY.out w hSw; obtain ⟨f4, f5, f6⟩ := FV.out w hSw; have f7 := hkI; have f8 := hlt); go_simp; first | done | with_reducible rfl)); simp only [Act.put, List.setIfInBounds_toArray, List.set_cons_zero, List.set_cons_succ])
        (refine mv_val 1 (v := ?_) rfl (by kernel_rfl) (by kernel_rfl) (by kernel_rfl) (fun _ _ _ h => h) (by rfl) hS ?_ ?_; rotate_left; (focus (intro w hSw; (try dsimp only at hSw); (obtain ⟨f1, f2, f3⟩ := FX.out w hSw; obtain ⟨f1', f2', f3'⟩ := FY.out w hSw; obtain ⟨f4, f5, f6⟩ := FV.out w hSw; have f7 := hkI; have f8 := hlt); go_simp; first | done | with_reducible rfl)); simp only [Act.put, List.setIfInBounds_toArray, List.set_cons_zero, List.set_cons_succ])
        (refine mv_val 2 (v := ?_) rfl (by kernel_rfl) (by kernel_rfl) (by kernel_rfl) (fun _ _ _ h => h) (by rfl) hS ?_ ?_; rotate_left; (focus (intro w hSw; (try dsimp only at hSw); (obtain ⟨f1, f2, f3⟩ := FX.out w hSw; obtain ⟨f1', f2', f3'⟩ := FY.out w hSw; obtain ⟨f4, f5, f6⟩ := FV.out w hSw; have f7 := hkI; have f8 := hlt); go_simp; first | done | with_reducible rfl)); simp only [Act.put, List.setIfInBounds_toArray, List.set_cons_zero, List.set_cons_succ])
        (refine mv_val 3 (v := ?_) rfl (by kernel_rfl) (by kernel_rfl) (by kernel_rfl) (fun _ _ _ h => h) (by rfl) hS ?_ ?_; rotate_left; (focus (intro w hSw; (try dsimp only at hSw); (obtain ⟨f1, f2, f3⟩ := FX.out w hSw; obtain ⟨f1', f2', f3'⟩ := FY.out w hSw; obtain ⟨f4, f5, f6⟩ := FV.out w hSw; have f7 := hkI; have f8 := hlt); go_simp; first | done | with_reducible rfl)); simp only [Act.put, List.setIfInBounds_toArray, List.set_cons_zero, List.set_cons_succ])
        (refine mv_val 4 (v := ?_) rfl (by kernel_rfl) (by kernel_rfl) (by kernel_rfl) (fun _ _ _ h => h) (by rfl) hS ?_ ?_; rotate_left; (focus (intro w hSw; (try dsimp only at hSw); (obtain ⟨f1, f2, f3⟩ := FX.out w hSw; obtain ⟨f1', f2', f3'⟩ := FY.out w hSw; obtain ⟨f4, f5, f6⟩ := FV.out w hSw; have f7 := hkI; have f8 := hlt); go_simp; first | done | with_reducible rfl)); simp only [Act.put, List.setIfInBounds_toArray, List.set_cons_zero, List.set_cons_succ])
        (refine mv_call 5 (f := ?_) (args := ?_) rfl (by kernel_rfl) (by rfl) ?_ ?_; rotate_left 2; (focus (go_simp; first | done | with_reducible rfl | (refine ⟨?_, ?_⟩ <;> with_reducible rfl))))
        refine (HL1.out _).mono ?_; rintro e w4 ⟨rfl, hb4⟩
        have hS4 : Below wr.heap.size wr w4 := hS.trans (hb4.mono hS.size)
        refine ⟨_, rfl, hS4, ?_⟩
        replace hS := hS4
        clear hS4
        simp only [Act.put, List.setIfInBounds_toArray, List.set_cons_zero, List.set_cons_succ]
        (refine mv_val 6 (v := ?_) rfl (by kernel_rfl) (by kernel_rfl) (by kernel_rfl) (fun _ _ _ h => h) (by rfl) hS ?_ ?_; rotate_left; (focus (intro w hSw; (try dsimp only at hSw); (obtain ⟨f1, f2, f3⟩ := FX.out w hSw; obtain ⟨f1', f2', f3'⟩ := FY.out w hSw; obtain ⟨f4, f5, f6⟩ := FV.out w hSw; have f7 := hkI; have f8 := hlt); go_simp; first | done | with_reducible rfl)); simp only [Act.put, List.setIfInBounds_toArray, List.set_cons_zero, List.set_cons_succ])
        (refine mv_val 7 (v := ?_) rfl (by kernel_rfl) (by kernel_rfl) (by kernel_rfl) (fun _ _ _ h => h) (by rfl) hS ?_ ?_; rotate_left; (focus (intro w hSw; (try dsimp only at hSw); (obtain ⟨f1, f2, f3⟩ := FX.out w hSw; obtain ⟨f1', f2', f3'⟩ := FY.out w hSw; obtain ⟨f4, f5, f6⟩ := FV.out w hSw; have f7 := hkI; have f8 := hlt); go_simp; first | done | with_reducible rfl)); simp only [Act.put, List.setIfInBounds_toArray, List.set_cons_zero, List.set_cons_succ])
        (refine mv_val 8 (v := ?_) rfl (by kernel_rfl) (by kernel_rfl) (by kernel_rfl) (fun _ _ _ h => h) (by rfl) hS ?_ ?_; rotate_left; (focus (intro w hSw; (try dsimp only at hSw); (obtain ⟨f1, f2, f3⟩ := FX.out w hSw; obtain ⟨f1', f2', f3'⟩ := FY.out w hSw; obtain ⟨f4, f5, f6⟩ := FV.out w hSw; have f7 := hkI; have f8 := hlt); go_simp; first | done | with_reducible rfl)); simp only [Act.put, List.setIfInBounds_toArray, List.set_cons_zero, List.set_cons_succ])
        (refine mv_val 9 (v := ?_) rfl (by kernel_rfl) (by kernel_rfl) (by kernel_rfl) (fun _ _ _ h => h) (by rfl) hS ?_ ?_; rotate_left; (focus (intro w hSw; (try dsimp only at hSw); (obtain ⟨f1, f2, f3⟩ := FX.out w hSw; obtain ⟨f1', f2', f3'⟩ := FY.out w hSw; obtain ⟨f4, f5, f6⟩ := FV.out w hSw; have f7 := hkI; have f8 := hlt); go_simp; first | done | with_reducible rfl)); simp only [Act.put, List.setIfInBounds_toArray, List.set_cons_zero, List.set_cons_succ])
        (refine mv_val 10 (v := ?_) rfl (by kernel_rfl) (by kernel_rfl) (by kernel_rfl) (fun _ _ _ h => h) (by rfl) hS ?_ ?_; rotate_left; (focus (intro w hSw; (try dsimp only at hSw); (obtain ⟨f1, f2, f3⟩ := FX.out w hSw; obtain ⟨f1', f2', f3'⟩ := FY.out w hSw; obtain ⟨f4, f5, f6⟩ := FV.out w hSw; have f7 := hkI; have f8 := hlt); go_simp; first | done | with_reducible rfl)); simp only [Act.put, List.setIfInBounds_toArray, List.set_cons_zero, List.set_cons_succ])
        (refine mv_val 11 (v := ?_) rfl (by kernel_rfl) (by kernel_rfl) (by kernel_rfl) (fun _ _ _ h => h) (by rfl) hS ?_ ?_; rotate_left; (focus (intro w hSw; (try dsimp only at hSw); (obtain ⟨f1, f2, f3⟩ := FX.out w hSw; obtain ⟨f1', f2', f3'⟩ := FY.out w hSw; obtain ⟨f4, f5, f6⟩ := FV.out w hSw; have f7 := hkI; have f8 := hlt); go_simp; first | done | with_reducible rfl)); simp only [Act.put, List.setIfInBounds_toArray, List.set_cons_zero, List.set_cons_succ])
        (refine mv_call 12 (f := ?_) (args := ?_) rfl (by kernel_rfl) (by rfl) ?_ ?_; rotate_left 2; (focus (go_simp; first | done | with_reducible rfl | (refine ⟨?_, ?_⟩ <;> with_reducible rfl))))
        refine (HL2.out _).mono ?_; rintro e w6 ⟨rfl, hb6⟩
        have hS4 : Below wr.heap.size wr w6 := hS.trans (hb6.mono hS.size)
        refine ⟨_, rfl, hS4, ?_⟩
        replace hS := hS4
        clear hS4
        simp only [Act.put, List.setIfInBounds_toArray, List.set_cons_zero, List.set_cons_succ]
        (refine mv_val 13 (v := ?_) rfl (by kernel_rfl) (by kernel_rfl) (by kernel_rfl) (fun _ _ _ h => h) (by rfl) hS ?_ ?_; rotate_left; (focus (intro w hSw; (try dsimp only at hSw); (obtain ⟨f1, f2, f3⟩ := FX.out w hSw; obtain ⟨f1', f2', f3'⟩ := FY.out w hSw; obtain ⟨f4, f5, f6⟩ := FV.out w hSw; have f7 := hkI; have f8 := hlt); go_simp; first | done | with_reducible rfl)); simp only [Act.put, List.setIfInBounds_toArray, List.set_cons_zero, List.set_cons_succ])
        refine wpAnyH_done (by kernel_rfl) ?_ _
        have hbf : Below W.heap.size W w6 := hbel.trans (hS.mono hzr)
        have k0 := (hS.block _ (lt_of_block H0.out)).trans H0.out
        have k1 := (hS.block _ (lt_of_block H1'.out)).trans H1'.out
        have K0 := Lib.hid k0
        have K1 := Lib.hid k1
        clear k0 k1 hS
        go_wp2_with fail
        go_roundw
        case rel =>
          refine ⟨k + 1, true, (decide (v = y)), j + 1, by omega, by go_num, rfl, rfl, by go_num, ?_, ?_, ?_, by omega, K0.out, K1.out, hbf⟩
          · rw [HE.out]; exact mem_yes HLB.out
          · rw [HE.out]; exact mem_more HGB.out
          · rw [HE.out, List.length_append, ← HJ.out]; rfl
        case measure => simp [intOf]; omega
      · skip
        go_wp2_with fail
        refine ah_start 10 (fun w' => Below wr.heap.size wr w') rfl (by kernel_rfl) (Below.refl _ _).drew ?_ ; intro hS
        (refine mv_val 0 (v := ?_) rfl (by kernel_rfl) (by kernel_rfl) (by kernel_rfl) (fun _ _ _ h => h) (by rfl) hS ?_ ?_; rotate_left; (focus (intro w hSw; (try dsimp only at hSw); (have f7 := hkI; have f8 := hlt); go_simp; first | done | with_reducible rfl)); simp only [Act.put, List.setIfInBounds_toArray, List.set_cons_zero, List.set_cons_succ])
        (refine mv_val 1 (v := ?_) rfl (by kernel_rfl) (by kernel_rfl) (by kernel_rfl) (fun _ _ _ h => h) (by rfl) hS ?_ ?_; rotate_left; (focus (intro w hSw; (try dsimp only at hSw); (have f7 := hkI; have f8 := hlt); go_simp; first | done | with_reducible rfl)); simp only [Act.put, List.setIfInBounds_toArray, List.set_cons_zero, List.set_cons_succ])
        (refine mv_skip 2 rfl (by kernel_rfl) (by kernel_rfl) (by kernel_rfl) (fun _ _ _ h => h) (by rfl) hS ?_; simp only [Act.put, List.setIfInBounds_toArray, List.set_cons_zero, List.set_cons_succ])
        (refine mv_skip 3 rfl (by kernel_rfl) (by kernel_rfl) (by kernel_rfl) (fun _ _ _ h => h) (by rfl) hS ?_; simp only [Act.put, List.setIfInBounds_toArray, List.set_cons_zero, List.set_cons_succ])
        (refine mv_skip 4 rfl (by kernel_rfl) (by kernel_rfl) (by kernel_rfl) (fun _ _ _ h => h) (by rfl) hS ?_; simp only [Act.put, List.setIfInBounds_toArray, List.set_cons_zero, List.set_cons_succ])
        (refine mv_skip 5 rfl (by kernel_rfl) (by kernel_rfl) (by kernel_rfl) (fun _ _ _ h => h) (by rfl) hS ?_; simp only [Act.put, List.setIfInBounds_toArray, List.set_cons_zero, List.set_cons_succ])
        (refine mv_skip 6 rfl (by kernel_rfl) (by kernel_rfl) (by kernel_rfl) (fun _ _ _ h => h) (by rfl) hS ?_; simp only [Act.put, List.setIfInBounds_toArray, List.set_cons_zero, List.set_cons_succ])
        (refine mv_skip 7 rfl (by kernel_rfl) (by kernel_rfl) (by kernel_rfl) (fun _ _ _ h => h) (by rfl) hS ?_; simp only [Act.put, List.setIfInBounds_toArray, List.set_cons_zero, List.set_cons_succ])
        (refine mv_val 8 (v := ?_) rfl (by kernel_rfl) (by kernel_rfl) (by kernel_rfl) (fun _ _ _ h => h) (by rfl) hS ?_ ?_; rotate_left; (focus (intro w hSw; (try dsimp only at hSw); (have f7 := hkI; have f8 := hlt); go_simp; first | done | with_reducible rfl)); simp only [Act.put, List.setIfInBounds_toArray, List.set_cons_zero, List.set_cons_succ])
        (refine mv_val 9 (v := ?_) rfl (by kernel_rfl) (by kernel_rfl) (by kernel_rfl) (fun _ _ _ h => h) (by rfl) hS ?_ ?_; rotate_left; (focus (intro w hSw; (try dsimp only at hSw); (have f7 := hkI; have f8 := hlt); go_simp; first | done | with_reducible rfl)); simp only [Act.put, List.setIfInBounds_toArray, List.set_cons_zero, List.set_cons_succ])
        refine wpAnyH_done (by kernel_rfl) ?_ _
        go_wp2_with fail
        refine ah_start 10 (fun w' => Below wr.heap.size wr w') rfl (by kernel_rfl) hS.drew ?_ ; clear hS; intro hS
        (refine mv_val 0 (v := ?_) rfl (by kernel_rfl) (by kernel_rfl) (by kernel_rfl) (fun _ _ _ h => h) (by rfl) hS ?_ ?_; rotate_left; (focus (intro w hSw; (try dsimp only at hSw); (have f7 := hkI; have f8 := hlt); go_simp; first | done | with_reducible rfl)); simp only [Act.put, List.setIfInBounds_toArray, List.set_cons_zero, List.set_cons_succ])
        (refine mv_val 1 (v := ?_) rfl (by kernel_rfl) (by kernel_rfl) (by kernel_rfl) (fun _ _ _ h => h) (by rfl) hS ?_ ?_; rotate_left; (focus (intro w hSw; (try dsimp only at hSw); (have f7 := hkI; have f8 := hlt); go_simp; first | done | with_reducible rfl)); simp only [Act.put, List.setIfInBounds_toArray, List.set_cons_zero, List.set_cons_succ])
        (refine mv_skip 2 rfl (by kernel_rfl) (by kernel_rfl) (by kernel_rfl) (fun _ _ _ h => h) (by rfl) hS ?_; simp only [Act.put, List.setIfInBounds_toArray, List.set_cons_zero, List.set_cons_succ])
        (refine mv_skip 3 rfl (by kernel_rfl) (by kernel_rfl) (by kernel_rfl) (fun _ _ _ h => h) (by rfl) hS ?_; simp only [Act.put, List.setIfInBounds_toArray, List.set_cons_zero, List.set_cons_succ])
        (refine mv_skip 4 rfl (by kernel_rfl) (by kernel_rfl) (by kernel_rfl) (fun _ _ _ h => h) (by rfl) hS ?_; simp only [Act.put, List.setIfInBounds_toArray, List.set_cons_zero, List.set_cons_succ])
        (refine mv_skip 5 rfl (by kernel_rfl) (by kernel_rfl) (by kernel_rfl) (fun _ _ _ h => h) (by rfl) hS ?_; simp only [Act.put, List.setIfInBounds_toArray, List.set_cons_zero, List.set_cons_succ])
        (refine mv_skip 6 rfl (by kernel_rfl) (by kernel_rfl) (by kernel_rfl) (fun _ _ _ h => h) (by rfl) hS ?_; simp only [Act.put, List.setIfInBounds_toArray, List.set_cons_zero, List.set_cons_succ])
        (refine mv_skip 7 rfl (by kernel_rfl) (by kernel_rfl) (by kernel_rfl) (fun _ _ _ h => h) (by rfl) hS ?_; simp only [Act.put, List.setIfInBounds_toArray, List.set_cons_zero, List.set_cons_succ])
        (refine mv_val 8 (v := ?_) rfl (by kernel_rfl) (by kernel_rfl) (by kernel_rfl) (fun _ _ _ h => h) (by rfl) hS ?_ ?_; rotate_left; (focus (intro w hSw; (try dsimp only at hSw); (have f7 := hkI; have f8 := hlt); go_simp; first | done | with_reducible rfl)); simp only [Act.put, List.setIfInBounds_toArray, List.set_cons_zero, List.set_cons_succ])
        (refine mv_val 9 (v := ?_) rfl (by kernel_rfl) (by kernel_rfl) (by kernel_rfl) (fun _ _ _ h => h) (by rfl) hS ?_ ?_; rotate_left; (focus (intro w hSw; (try dsimp only at hSw); (have f7 := hkI; have f8 := hlt); go_simp; first | done | with_reducible rfl)); simp only [Act.put, List.setIfInBounds_toArray, List.set_cons_zero, List.set_cons_succ])
        refine wpAnyH_done (by kernel_rfl) ?_ _
        go_wp2_with fail
        refine ah_start 14 (fun w' => Below wr.heap.size wr w') rfl (by kernel_rfl) hS.drew ?_ ; clear hS; intro hS
        (refine mv_val 0 (v := ?_) rfl (by kernel_rfl) (by kernel_rfl) (by kernel_rfl) (fun _ _ _ h => h) (by rfl) hS ?_ ?_; rotate_left; (focus (intro w hSw; (try dsimp only at hSw); (obtain ⟨f1, f2, f3⟩ := FX.out w hSw; obtain ⟨f1', f2', f3'⟩ := FY.out w hSw; obtain ⟨f4, f5, f6⟩ := FV.out w hSw; have f7 := hkI; have f8 := hlt); go_simp; first | done | with_reducible rfl)); simp only [Act.put, List.setIfInBounds_toArray, List.set_cons_zero, List.set_cons_succ])
        (refine mv_val 1 (v := ?_) rfl (by kernel_rfl) (by kernel_rfl) (by kernel_rfl) (fun _ _ _ h => h) (by rfl) hS ?_ ?_; rotate_left; (focus (intro w hSw; (try dsimp only at hSw); (obtain ⟨f1, f2, f3⟩ := FX.out w hSw; obtain ⟨f1', f2', f3'⟩ := FY.out w hSw; obtain ⟨f4, f5, f6⟩ := FV.out w hSw; have f7 := hkI; have f8 := hlt); go_simp; first | done | with_reducible rfl)); simp only [Act.put, List.setIfInBounds_toArray, List.set_cons_zero, List.set_cons_succ])
        (refine mv_val 2 (v := ?_) rfl (by kernel_rfl) (by kernel_rfl) (by kernel_rfl) (fun _ _ _ h => h) (by rfl) hS ?_ ?_; rotate_left; (focus (intro w hSw; (try dsimp only at hSw); (obtain ⟨f1, f2, f3⟩ := FX.out w hSw; obtain ⟨f1', f2', f3'⟩ := FY.out w hSw; obtain ⟨f4, f5, f6⟩ := FV.out w hSw; have f7 := hkI; have f8 := hlt); go_simp; first | done | with_reducible rfl)); simp only [Act.put, List.setIfInBounds_toArray, List.set_cons_zero, List.set_cons_succ])
        (refine mv_val 3 (v := ?_) rfl (by kernel_rfl) (by kernel_rfl) (by kernel_rfl) (fun _ _ _ h => h) (by rfl) hS ?_ ?_; rotate_left; (focus (intro w hSw; (try dsimp only at hSw); (obtain ⟨f1, f2, f3⟩ := FX.out w hSw; obtain ⟨f1', f2', f3'⟩ := FY.out w hSw; obtain ⟨f4, f5, f6⟩ := FV.out w hSw; have f7 := hkI; have f8 := hlt); go_simp; first | done | with_reducible rfl)); simp only [Act.put, List.setIfInBounds_toArray, List.set_cons_zero, List.set_cons_succ])
        (refine mv_val 4 (v := ?_) rfl (by kernel_rfl) (by kernel_rfl) (by kernel_rfl) (fun _ _ _ h => h) (by rfl) hS ?_ ?_; rotate_left; (focus (intro w hSw; (try dsimp only at hSw); (obtain ⟨f1, f2, f3⟩ := FX.out w hSw; obtain ⟨f1', f2', f3'⟩ := FY.out w hSw; obtain ⟨f4, f5, f6⟩ := FV.out w hSw; have f7 := hkI; have f8 := hlt); go_simp; first | done | with_reducible rfl)); simp only [Act.put, List.setIfInBounds_toArray, List.set_cons_zero, List.set_cons_succ])
        (refine mv_call 5 (f := ?_) (args := ?_) rfl (by kernel_rfl) (by rfl) ?_ ?_; rotate_left 2; (focus (go_simp; first | done | with_reducible rfl | (refine ⟨?_, ?_⟩ <;> with_reducible rfl))))
        refine (HL1.out _).mono ?_; rintro e w4 ⟨rfl, hb4⟩
        have hS4 : Below wr.heap.size wr w4 := hS.trans (hb4.mono hS.size)
        refine ⟨_, rfl, hS4, ?_⟩
        replace hS := hS4
        clear hS4
        simp only [Act.put, List.setIfInBounds_toArray, List.set_cons_zero, List.set_cons_succ]
        (refine mv_val 6 (v := ?_) rfl (by kernel_rfl) (by kernel_rfl) (by kernel_rfl) (fun _ _ _ h => h) (by rfl) hS ?_ ?_; rotate_left; (focus (intro w hSw; (try dsimp only at hSw); (obtain ⟨f1, f2, f3⟩ := FX.out w hSw; obtain ⟨f1', f2', f3'⟩ := FY.out w hSw; obtain ⟨f4, f5, f6⟩ := FV.out w hSw; have f7 := hkI; have f8 := hlt); go_simp; first | done | with_reducible rfl)); simp only [Act.put, List.setIfInBounds_toArray, List.set_cons_zero, List.set_cons_succ])
        (refine mv_val 7 (v := ?_) rfl (by kernel_rfl) (by kernel_rfl) (by kernel_rfl) (fun _ _ _ h => h) (by rfl) hS ?_ ?_; rotate_left; (focus (intro w hSw; (try dsimp only at hSw); (obtain ⟨f1, f2, f3⟩ := FX.out w hSw; obtain ⟨f1', f2', f3'⟩ := FY.out w hSw; obtain ⟨f4, f5, f6⟩ := FV.out w hSw; have f7 := hkI; have f8 := hlt); go_simp; first | done | with_reducible rfl)); simp only [Act.put, List.setIfInBounds_toArray, List.set_cons_zero, List.set_cons_succ])
        (refine mv_val 8 (v := ?_) rfl (by kernel_rfl) (by kernel_rfl) (by kernel_rfl) (fun _ _ _ h => h) (by rfl) hS ?_ ?_; rotate_left; (focus (intro w hSw; (try dsimp only at hSw); (obtain ⟨f1, f2, f3⟩ := FX.out w hSw; obtain ⟨f1', f2', f3'⟩ := FY.out w hSw; obtain ⟨f4, f5, f6⟩ := FV.out w hSw; have f7 := hkI; have f8 := hlt); go_simp; first | done | with_reducible rfl)); simp only [Act.put, List.setIfInBounds_toArray, List.set_cons_zero, List.set_cons_succ])
        (refine mv_val 9 (v := ?_) rfl (by kernel_rfl) (by kernel_rfl) (by kernel_rfl) (fun _ _ _ h => h) (by rfl) hS ?_ ?_; rotate_left; (focus (intro w hSw; (try dsimp only at hSw); (obtain ⟨f1, f2, f3⟩ := FX.out w hSw; obtain ⟨f1', f2', f3'⟩ := FY.out w hSw; obtain ⟨f4, f5, f6⟩ := FV.out w hSw; have f7 := hkI; have f8 := hlt); go_simp; first | done | with_reducible rfl)); simp only [Act.put, List.setIfInBounds_toArray, List.set_cons_zero, List.set_cons_succ])
        (refine mv_val 10 (v := ?_) rfl (by kernel_rfl) (by kernel_rfl) (by kernel_rfl) (fun _ _ _ h => h) (by rfl) hS ?_ ?_; rotate_left; (focus (intro w hSw; (try dsimp only at hSw); (obtain ⟨f1, f2, f3⟩ := FX.out w hSw; obtain ⟨f1', f2', f3'⟩ := FY.out w hSw; obtain ⟨f4, f5, f6⟩ := FV.out w hSw; have f7 := hkI; have f8 := hlt); go_simp; first | done | with_reducible rfl)); simp only [Act.put, List.setIfInBounds_toArray, List.set_cons_zero, List.set_cons_succ])
        (refine mv_val 11 (v := ?_) rfl (by kernel_rfl) (by kernel_rfl) (by kernel_rfl) (fun _ _ _ h => h) (by rfl) hS ?_ ?_; rotate_left; (focus (intro w hSw; (try dsimp only at hSw); (obtain ⟨f1, f2, f3⟩ := FX.out w hSw; obtain ⟨f1', f2', f3'⟩ := FY.out w hSw; obtain ⟨f4, f5, f6⟩ := FV.out w hSw; have f7 := hkI; have f8 := hlt); go_simp; first | done | with_reducible rfl)); simp only [Act.put, List.setIfInBounds_toArray, List.set_cons_zero, List.set_cons_succ])
        (refine mv_call 12 (f := ?_) (args := ?_) rfl (by kernel_rfl) (by rfl) ?_ ?_; rotate_left 2; (focus (go_simp; first | done | with_reducible rfl | (refine ⟨?_, ?_⟩ <;> with_reducible rfl))))
        refine (HL2.out _).mono ?_; rintro e w6 ⟨rfl, hb6⟩
        have hS4 : Below wr.heap.size wr w6 := hS.trans (hb6.mono hS.size)
        refine ⟨_, rfl, hS4, ?_⟩
        replace hS := hS4
        clear hS4
        simp only [Act.put, List.setIfInBounds_toArray, List.set_cons_zero, List.set_cons_succ]
        (refine mv_val 13 (v := ?_) rfl (by kernel_rfl) (by kernel_rfl) (by kernel_rfl) (fun _ _ _ h => h) (by rfl) hS ?_ ?_; rotate_left; (focus (intro w hSw; (try dsimp only at hSw); (obtain ⟨f1, f2, f3⟩ := FX.out w hSw; obtain ⟨f1', f2', f3'⟩ := FY.out w hSw; obtain ⟨f4, f5, f6⟩ := FV.out w hSw; have f7 := hkI; have f8 := hlt); go_simp; first | done | with_reducible rfl)); simp only [Act.put, List.setIfInBounds_toArray, List.set_cons_zero, List.set_cons_succ])
        refine wpAnyH_done (by kernel_rfl) ?_ _
        have hbf : Below W.heap.size W w6 := hbel.trans (hS.mono hzr)
        have k0 := (hS.block _ (lt_of_block H0.out)).trans H0.out
        have k1 := (hS.block _ (lt_of_block H1'.out)).trans H1'.out
        have K0 := Lib.hid k0
        have K1 := Lib.hid k1
        clear k0 k1 hS
        go_wp2_with fail
        go_roundw
        case rel =>
          refine ⟨k + 1, true, true, j + 1, by omega, by go_num, rfl, rfl, by go_num, ?_, ?_, ?_, by omega, K0.out, K1.out, hbf⟩
          · rw [HE.out]; exact mem_yes HLB.out
          · rw [HE.out]; exact mem_yes HGB.out
          · rw [HE.out, List.length_append, ← HJ.out]; rfl
        case measure => simp [intOf]; omega
end Go.Proofs.Ytiijnfakphhbeaa

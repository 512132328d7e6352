/- Joined texts: see the remark ahead of each part. No condition but those that the parts name. -/
import Derived.Test.YthkpgjcnnfdibaaCRa
/-! The walk of the reference's Put (layer 6). No condition but sizes. -/
namespace Go.Proofs.Ythkpgjcnnfdibaa
open Go.RowKit Go.Maps
set_option linter.unusedVariables false
set_option linter.unusedSimpArgs false

/-- two slices lie apart -/
def Ap (v u : Value) : Prop := v.ownBlock = none ∨ v.ownBlock ≠ u.ownBlock
theorem Ap.symm {v u : Value} (h : Ap v u) : Ap u v := by
  unfold Ap at *
  rcases h with h | h
  · rw [h]
    cases u.ownBlock with
    | none => exact .inl rfl
    | some k => exact .inr (by simp)
  · exact .inr (Ne.symm h)
theorem own_type {w : World} {b b' sz sz' n n' : Nat} {e e' : TypeId} {v v' : Value} {xs xs' : List Value} (h : w.ownsRow b e sz v n xs) (h' : w.ownsRow b' e' sz' v' n' xs') (hne : e ≠ e') : Ap v v' := by
  rcases h.2 with ⟨rfl, _⟩ | ⟨g, cap, cur, rfl, _, hh, _⟩
  · exact .inl rfl
  · right
    rcases h'.2 with ⟨rfl, _⟩ | ⟨g', cap', cur', rfl, _, hh', _⟩
    · simp [Value.ownBlock]
    · simp only [Value.ownBlock, ne_eq, Option.some.injEq]
      rintro rfl
      rw [hh] at hh'
      simp only [Option.some.injEq, Obj.cells.injEq] at hh'
      exact hne hh'.2.1
theorem Ap.app {w : World} {b sz n s : Nat} {e : TypeId} {v u u' : Value} {xs : List Value} (h : Ap v u) (ho : w.ownsRow b e sz v n xs) (hu : u'.ownBlock = u.ownBlock ∨ u'.ownBlock = some s) (hs : w.heap.size ≤ s) : Ap v u' := by
  rcases h with h | h
  · exact .inl h
  · right
    rcases hu with hu | hu
    · rw [hu]; exact h
    · rw [hu]
      intro e
      have := (ho.lt s e).2
      omega
theorem rput_vals {w : World} {base by_ : Nat} {v : Value} {m : List V} {x : V} (h : w.ownsRow base 46 3 v (m.length + 1) (vcells m ++ cv x)) : w.ownsRow base 46 3 v (m ++ [x]).length (vcells (m ++ [x])) := by
  rw [List.length_append, List.length_singleton, vcells_snoc]; exact h

set_option maxHeartbeats 8000000 in
set_option maxRecDepth 100000 in
theorem rcput_any (B : Nat) (t : UInt8) (A : Option Addr) (c : Nat) (l : List V) (w : World) (hl : Rd w B A (vcells l)) (hB : B ≤ w.heap.size) (hx : ∀ v ∈ l, v.k < 256 ∧ i64r v.n ∧ v.t.length ≤ 1000000) (hll : l.length ≤ 4294967296)
    (hT : l.length ≤ 65536 → ((words (marks l)).flatMap wbytes).length ≤ 4000000000) (hC : l.length ≤ 65536 → (cbody t (marks l)).length ≤ 4611686018) :
    Calls Try.prog 60 #[b8 t, .slice A l.length c] w (RetBE w (cput t l)) := by
  have K0 := rColumn_any B A c t l w hl hB hll (fun v hv => (hx v hv).1)
  obtain ⟨co, hco⟩ : ∃ x, x = colok t l := ⟨_, rfl⟩
  rw [← hco] at K0
  have HK := Lib.hid K0
  have HCO := Lib.hid hco
  have HX := Lib.hid hx
  have HT := Lib.hid hT
  have HC := Lib.hid hC
  clear K0 hco hx hT hC
  cases co
  case false =>
    have he : cput t l = ([], 1) := by unfold cput; rw [← HCO.out]; rfl
    have HE := Lib.hid he
    clear he
    go_enter Try.func60, Try.ntmps60
    go_wp2_with fail
    refine HK.out.mono ?_; rintro e w1 ⟨rfl, hb1⟩
    go_wp2_with fail
    go_ret2
    exact retBE_err HE.out hb1
  have he : cput t l = (bitsN l.length (nullAt l) ++ cbody t (marks l), 0) := by unfold cput; rw [← HCO.out]; rfl
  have hcol := HCO.out.symm
  unfold colok at hcol
  simp only [Bool.and_eq_true, decide_eq_true_eq, List.all_eq_true] at hcol
  obtain ⟨hty, hl65, hmay⟩ := hcol
  have HE := Lib.hid he
  have HTY := Lib.hid hty
  have HMAY := Lib.hid hmay
  have HT2 := Lib.hid (HT.out hl65)
  have HC2 := Lib.hid (HC.out hl65)
  obtain ⟨n, hn⟩ : ∃ n, n = l.length := ⟨_, rfl⟩
  have HN := Lib.hid hn
  rw [← hn] at HK hl65 ⊢
  obtain ⟨by_, hEl, hby⟩ := El_val
  have HEL := hEl
  clear he hty hmay hn hll
  go_enter Try.func60, Try.ntmps60
  go_wp2_with fail
  refine HK.out.mono ?_; rintro e w1 ⟨rfl, hb1⟩
  go_wp2_with fail
  go_loopw [6, 7, 8, 9, 10] (fun v6 v7 v8 v9 v10 wr => ∃ (k : Nat) (m : List V), k ≤ n ∧ v10 = .int .i64 k ∧ m = marks (l.take k) ∧ m.length ≤ k ∧ wr.ownsRow w.heap.size 4 1 v6 k (bools ((l.take k).map isNull)) ∧ wr.ownsRow w.heap.size 4 1 v7 m.length (bools (m.map fun v => decide (v.n = 1))) ∧
      wr.ownsRow w.heap.size 46 3 v8 m.length (vcells m) ∧ wr.ownsRow w.heap.size 2 1 v9 m.length (In.num (m.map V.n)) ∧ Ap v6 v7 ∧ Below w.heap.size w wr) (fun _ _ _ _ v10 _ => n - (intOf v10).toNat)
  case atStart => exact ⟨0, [], by omega, rfl, rfl, by simp, World.ownsRow_nil _ _ _ _, World.ownsRow_nil _ _ _ _, World.ownsRow_nil _ _ _ _, World.ownsRow_nil _ _ _ _, .inl rfl, hb1⟩
  case round =>
    obtain ⟨k, m, hk, rfl, hm, hmk, h6, h7, h8, h9, hap, hbel⟩ := hrel
    have hzr := hbel.size
    have HM := Lib.hid hm
    clear hm
    by_cases hlt : k < n
    case neg =>
      have hkn : k = n := by omega
      have hge : (n : Int) ≤ (k : Int) := by omega
      have hmm : m = marks l := by rw [HM.out, hkn, HN.out, List.take_length]
      have h6f : wr.ownsRow w.heap.size 4 1 u6 (l.map isNull).length (bools (l.map isNull)) := by
        have h := h6
        rw [hkn, HN.out, List.take_length] at h
        rw [List.length_map]; exact h
      have h7f : wr.ownsRow w.heap.size 4 1 u7 (m.map fun v => decide (v.n = 1)).length (bools (m.map fun v => decide (v.n = 1))) := by rw [List.length_map]; exact h7
      have h9f : wr.ownsRow w.heap.size 2 1 u9 (m.map V.n).length (In.num (m.map V.n)) := by rw [List.length_map]; exact h9
      obtain ⟨A6, c6, rfl, _⟩ := own_form h6f
      obtain ⟨A7, c7, rfl, _⟩ := own_form h7f
      obtain ⟨A8, c8, rfl, _⟩ := own_form h8
      obtain ⟨A9, c9, rfl, _⟩ := own_form h9f
      have r6 := rd_own h6f
      have r7 := rd_own h7f
      have r8 := rd_own h8
      have r9 := rd_own h9f
      have hml : m.length ≤ 65536 := by omega
      have hmk3 : t.toNat = 3 → ∀ v ∈ m, v.k = 3 := fun h3 v hv => by
        rw [hmm] at hv
        unfold marks at hv
        rw [List.mem_filter] at hv
        have h1 := HMAY.out v hv.1
        unfold rmay at h1
        simp only [Bool.and_eq_true, Bool.or_eq_true, decide_eq_true_eq] at h1
        have h2 : v.k ≠ 0 := by simpa using hv.2
        omega
      have b6 := rBits_any wr.heap.size A6 c6 (l.map isNull) wr r6 (Nat.le_refl _) (by rw [List.length_map, ← HN.out]; omega)
      have hlm : (l.map isNull).length = n := by rw [List.length_map, HN.out]
      have hnf := nulls_F l
      rw [← HN.out] at hnf
      rw [hlm, hnf] at b6
      have b7 := fun w' (h : Below wr.heap.size wr w') => rBits_any wr.heap.size A7 c7 (m.map fun v => decide (v.n = 1)) w' (r7.below h) h.size (by rw [List.length_map]; omega)
      have htf := truths_F m
      simp only [List.length_map] at b7
      rw [htf] at b7
      have b8' := fun (h3 : t.toNat = 3) w' (h : Below wr.heap.size wr w') => rtexts_any wr.heap.size A8 c8 m w' (r8.below h) h.size hml (hmk3 h3) (by rw [hmm]; exact HT2.out)
      have b9 := fun w' (h : Below wr.heap.size wr w') => In.rPut_ints wr.heap.size A9 c9 (m.map V.n) w' (r9.below h) h.size (by rw [List.length_map]; omega)
      simp only [List.length_map] at b9
      have hE2 : cput t l = (bitsN n (nullAt l) ++ cbody t m, 0) := by rw [HE.out, ← HN.out, hmm]
      have hlb : (bitsN n (nullAt l)).length ≤ 65536 := by rw [bitsN_len]; unfold size8; omega
      have hlc : (cbody t m).length ≤ 4611686018 := by rw [hmm]; exact HC2.out
      obtain ⟨bs, hbs⟩ : ∃ bs, bs = bitsN n (nullAt l) := ⟨_, rfl⟩
      rw [← hbs] at b6 hE2 hlb
      have H6 := Lib.hid b6
      have H7 := Lib.hid b7
      have H8 := Lib.hid b8'
      have H9 := Lib.hid b9
      have HE2 := Lib.hid hE2
      rw [show (l.map isNull).length = n from hlm]
      rw [show (m.map fun v => decide (v.n = 1)).length = m.length from List.length_map ..]
      rw [show (m.map V.n).length = m.length from List.length_map ..]
      clear hmm h6f h7f h9f r6 r7 r8 r9 hmk3 b6 b7 b8' b9 hlm hnf htf hbs h6 h7 h8 h9 hap hkn hE2
      go_wp2_with fail
      refine H6.out.mono ?_; rintro e w2 ⟨A2, c2, rfl, hown2, hb2⟩
      have hb02 : Below w.heap.size w w2 := hbel.trans (hb2.mono hzr)
      have hz2 := hb2.size
      have h13 := HTY.out
      rcases (show t.toNat = 1 ∨ t.toNat = 2 ∨ t.toNat = 3 by unfold tyok at h13; simp at h13; omega) with h1 | h1 | h1
      · have e1 : ((t.toNat : Int) == 1) = true := by simp; omega
        have hcb : cbody t m = bitsN m.length (truthAt m) := by unfold cbody; rw [if_pos h1]
        rw [hcb] at HE2 hlc
        obtain ⟨y, hy⟩ : ∃ y, y = bitsN m.length (truthAt m) := ⟨_, rfl⟩
        rw [← hy] at HE2 hlc H7
        clear hcb hy h1 h13
        go_wp2_with fail
        refine (H7.out _ hb2).mono ?_; rintro e w3 ⟨A3, c3, rfl, hown3, hb3⟩
        have hown4 := own_bel hown2 hb3
        have hb03 : Below w.heap.size w w3 := hb02.trans (hb3.mono hb02.size)
        have hz3 : wr.heap.size ≤ w3.heap.size := Nat.le_trans hz2 hb3.size
        have hrd3 := rd_own hown3
        clear hown2 hown3
        go_wp2_with (at_builtin; refine wpList_app El_u8 rfl _ _ rfl hown4 rfl rfl hrd3 (by simp) (cells_one y) (by unfold maxLen; omega) (by omega) hz3 ?_; intro v4 w4 hown5 hg4 _)
        have hb4 : Below wr.heap.size w3 w4 := own_below hown4 hg4 hz3
        go_ret2
        refine retBE_ok HE2.out ?_ (hb03.trans (hb4.mono hzr))
        rw [cells_append, List.length_append]
        exact own_lower hown5 hzr
      · have e1 : ((t.toNat : Int) == 1) = false := by simp; omega
        have e2 : ((t.toNat : Int) == 2) = true := by simp; omega
        have hcb : cbody t m = In.iput (m.map V.n) := by unfold cbody; rw [if_neg (by omega), if_pos h1]
        rw [hcb] at HE2 hlc
        obtain ⟨y, hy⟩ : ∃ y, y = In.iput (m.map V.n) := ⟨_, rfl⟩
        rw [← hy] at HE2 hlc H9
        clear hcb hy h1 h13
        go_wp2_with fail
        refine (H9.out _ hb2).mono ?_; rintro e w3 ⟨A3, c3, rfl, hown3, hb3⟩
        have hown4 := own_bel hown2 hb3
        have hb03 : Below w.heap.size w w3 := hb02.trans (hb3.mono hb02.size)
        have hz3 : wr.heap.size ≤ w3.heap.size := Nat.le_trans hz2 hb3.size
        have hrd3 := rd_own hown3
        clear hown2 hown3
        go_wp2_with (at_builtin; refine wpList_app El_u8 rfl _ _ rfl hown4 rfl rfl hrd3 (by simp) (cells_one y) (by unfold maxLen; omega) (by omega) hz3 ?_; intro v4 w4 hown5 hg4 _)
        have hb4 : Below wr.heap.size w3 w4 := own_below hown4 hg4 hz3
        go_ret2
        refine retBE_ok HE2.out ?_ (hb03.trans (hb4.mono hzr))
        rw [cells_append, List.length_append]
        exact own_lower hown5 hzr
      · have e1 : ((t.toNat : Int) == 1) = false := by simp; omega
        have e2 : ((t.toNat : Int) == 2) = false := by simp; omega
        have hcb : cbody t m = tput m := by unfold cbody; rw [if_neg (by omega), if_neg (by omega)]
        rw [hcb] at HE2 hlc
        have H8' := Lib.hid (H8.out h1)
        obtain ⟨y, hy⟩ : ∃ y, y = tput m := ⟨_, rfl⟩
        rw [← hy] at HE2 hlc H8'
        clear hcb hy h1 h13 H8
        go_wp2_with fail
        refine (H8'.out _ hb2).mono ?_; rintro e w3 ⟨A3, c3, rfl, hown3, hb3⟩
        have hown4 := own_bel hown2 hb3
        have hb03 : Below w.heap.size w w3 := hb02.trans (hb3.mono hb02.size)
        have hz3 : wr.heap.size ≤ w3.heap.size := Nat.le_trans hz2 hb3.size
        have hrd3 := rd_own hown3
        clear hown2 hown3
        go_wp2_with (at_builtin; refine wpList_app El_u8 rfl _ _ rfl hown4 rfl rfl hrd3 (by simp) (cells_one y) (by unfold maxLen; omega) (by omega) hz3 ?_; intro v4 w4 hown5 hg4 _)
        have hb4 : Below wr.heap.size w3 w4 := own_below hown4 hg4 hz3
        go_ret2
        refine retBE_ok HE2.out ?_ (hb03.trans (hb4.mono hzr))
        rw [cells_append, List.length_append]
        exact own_lower hown5 hzr
    obtain ⟨v, hv⟩ : ∃ v, l[k]? = some v := ⟨_, List.getElem?_eq_getElem (by rw [← HN.out]; exact hlt)⟩
    obtain ⟨gb, go, rfl, hgb, q0, q1, q2⟩ := rd_val hl hv
    have F0 : ∀ w', Below w.heap.size w w' → w'.cell? ⟨gb, go + k * 3, none⟩ = some (.int .u8 (v.k : Int)) ∧ w'.cell? ⟨gb, go + k * 3 + 1, none⟩ = some (.int .i64 v.n) ∧ w'.cell? ⟨gb, go + k * 3 + 2, none⟩ = some (txt v.t) := fun w' hb =>
      ⟨(hb.cell (p := ⟨gb, go + k * 3, none⟩) (by show gb < _; omega)).trans q0, (hb.cell (p := ⟨gb, go + k * 3 + 1, none⟩) (by show gb < _; omega)).trans q1, (hb.cell (p := ⟨gb, go + k * 3 + 2, none⟩) (by show gb < _; omega)).trans q2⟩
    have hkI : (k : Int) < (n : Int) := by omega
    obtain ⟨f0, f1, f2⟩ := F0 wr hbel
    have hms := marks_snoc hv
    rw [← HM.out] at hms
    have hb6 : ∀ x, x = isNull v → bools ((l.take (k + 1)).map isNull) = bools ((l.take k).map isNull) ++ [.bool x] := fun x hx => by rw [hx, List.take_add_one, hv, List.map_append]; simp [bools]
    have HMS := Lib.hid hms
    have HB6 := Lib.hid hb6
    have HF0 := Lib.hid F0
    clear q0 q1 q2 hv F0 hms hb6
    by_cases hv0 : v.k = 0
    · have hI0 : ((v.k : Int) == 0) = true := by simp; omega
      have hI1 : ((v.k : Int) != 0) = false := by simp; omega
      have HV0 := Lib.hid hv0
      clear hv0
      go_wp2_with (at_builtin; refine wpList_app El_boolc rfl _ _ rfl (h6.alloc _) rfl rfl (by exact rd_one _ _ _ _ _ rfl (Nat.lt_add_one _)) rfl (by intro u hu; simp at hu; subst hu; rfl) (by unfold maxLen; omega) (by omega) (by simp; omega) ?_; intro x6 w6 g6 hg6 ho6; have hb06 : Below w.heap.size w w6 := (hbel.alloc hzr _).trans (own_below (h6.alloc _) hg6 (by simp; omega)); obtain ⟨f0, f1, f2⟩ := HF0.out w6 hb06)
      go_roundw
      case rel =>
        refine ⟨k + 1, m, by omega, by go_num, ?_, by omega, ?_, (h7.alloc _).kept hg6 hap.symm, (h8.alloc _).kept hg6 (own_type h8 h6 (by decide)), (h9.alloc _).kept hg6 (own_type h9 h6 (by decide)), (hap.symm.app (h7.alloc _) ho6 (Nat.le_refl _)).symm, hb06⟩
        · rw [HMS.out, if_pos (by simp [HV0.out]), List.append_nil]
        · rw [HB6.out true (by simp [HV0.out])]; exact g6
      case measure => simp [intOf]; omega
    have hI0 : ((v.k : Int) == 0) = false := by simp; omega
    have hI1 : ((v.k : Int) != 0) = true := by simp; omega
    have HV0 := Lib.hid hv0
    clear hv0
    go_wp2_with (first
      | (at_builtin; refine wpList_app El_boolc rfl _ _ rfl (h6.alloc _) rfl rfl (by exact rd_one _ _ _ _ _ rfl (Nat.lt_add_one _)) rfl (by intro u hu; simp at hu; subst hu; rfl) (by unfold maxLen; omega) (by omega) (by simp; omega) ?_; intro x6 w6 g6 hg6 ho6; have hb06 : Below w.heap.size w w6 := (hbel.alloc hzr _).trans (own_below (h6.alloc _) hg6 (by simp; omega)); have hz6 := hb06.size; obtain ⟨f0, f1, f2⟩ := HF0.out w6 hb06; have h7a := (h7.alloc (.cells #[.bool false] 4)).kept hg6 hap.symm; have h8a := (h8.alloc (.cells #[.bool false] 4)).kept hg6 (own_type h8 h6 (by decide)); have h9a := (h9.alloc (.cells #[.bool false] 4)).kept hg6 (own_type h9 h6 (by decide)); have hapa := (hap.symm.app (h7.alloc (.cells #[.bool false] 4)) ho6 (Nat.le_refl _)).symm)
      | (at_builtin; refine wpList_app HEL rfl _ _ rfl (h8a.alloc _) rfl rfl (cv_three v rfl) rfl (cv_one _) (by unfold maxLen; omega) (by have : (m.length + 1) * by_ ≤ 65537 * 64 := Nat.mul_le_mul (by omega) hby; omega) (by simp; omega) ?_; intro x8 w8 g8 hg8 ho8; have hb08 : Below w.heap.size w w8 := (hb06.alloc hz6 _).trans (own_below (h8a.alloc _) hg8 (by simp; omega)); have hz8 := hb08.size; obtain ⟨f0, f1, f2⟩ := HF0.out w8 hb08; have h6b := (g6.alloc (.cells #[.int .u8 (v.k : Int), .int .i64 v.n, txt v.t] 46)).kept hg8 (own_type g6 h8a (by decide)); have h7b := (h7a.alloc (.cells #[.int .u8 (v.k : Int), .int .i64 v.n, txt v.t] 46)).kept hg8 (own_type h7a h8a (by decide)); have h9b := (h9a.alloc (.cells #[.int .u8 (v.k : Int), .int .i64 v.n, txt v.t] 46)).kept hg8 (own_type h9a h8a (by decide)))
      | (at_builtin; refine wpList_app El_boolc rfl _ _ rfl (h7b.alloc _) rfl rfl (by exact rd_one _ _ _ _ _ rfl (Nat.lt_add_one _)) rfl (by intro u hu; simp at hu; subst hu; rfl) (by unfold maxLen; omega) (by omega) (by simp; omega) ?_; intro x7 w7 g7 hg7 ho7; have hb07 : Below w.heap.size w w7 := (hb08.alloc hz8 _).trans (own_below (h7b.alloc _) hg7 (by simp; omega)); have hz7 := hb07.size; obtain ⟨f0, f1, f2⟩ := HF0.out w7 hb07; have h6c := (h6b.alloc (.cells #[.bool (v.n == 1)] 4)).kept hg7 hapa; have h8c := (g8.alloc (.cells #[.bool (v.n == 1)] 4)).kept hg7 (own_type g8 h7b (by decide)); have h9c := (h9b.alloc (.cells #[.bool (v.n == 1)] 4)).kept hg7 (own_type h9b h7b (by decide)); have hapc := hapa.app (h6b.alloc (.cells #[.bool (v.n == 1)] 4)) ho7 (Nat.le_refl _))
      | (at_builtin; refine wpList_app In.El_i64 rfl _ _ rfl (h9c.alloc _) rfl rfl (by exact rd_one _ _ _ _ _ rfl (Nat.lt_add_one _)) rfl one_int (by unfold maxLen; omega) (by omega) (by simp; omega) ?_; intro x9 w9 g9 hg9 ho9; have hb09 : Below w.heap.size w w9 := (hb07.alloc hz7 _).trans (own_below (h9c.alloc _) hg9 (by simp; omega))))
    go_roundw
    case rel =>
      refine ⟨k + 1, m ++ [v], by omega, by go_num, ?_, by simp; omega, ?_, ?_, ?_, ?_, hapc, hb09⟩
      · rw [HMS.out, if_neg (by simp [HV0.out])]
      · rw [HB6.out false (by simp [HV0.out])]; exact (h6c.alloc _).kept hg9 (own_type h6c h9c (by decide))
      · rw [List.length_append, List.length_singleton, List.map_append]
        have hd : decide (v.n = 1) = (v.n == 1) := by rw [Bool.eq_iff_iff]; simp
        unfold bools
        rw [List.map_append]
        simp only [List.map_cons, List.map_nil, hd]
        exact (g7.alloc _).kept hg9 (own_type g7 h9c (by decide))
      · rw [List.length_append, List.length_singleton, vcells_snoc]; exact (h8c.alloc _).kept hg9 (own_type h8c h9c (by decide))
      · rw [List.length_append, List.length_singleton, List.map_append]
        unfold In.num
        rw [List.map_append]
        exact g9
    case measure => simp [intOf]; omega
end Go.Proofs.Ythkpgjcnnfdibaa

/-! The walk of the reference's bits (layer 6). For at most 65536 bits. -/
namespace Go.Proofs.Ythkpgjcnnfdibaa
open Go.RowKit Go.Maps
set_option linter.unusedVariables false
set_option linter.unusedSimpArgs false

/-- What the reference's bits leaves: the bits, how many bytes, the error. -/
def RetBits (w : World) (b : List UInt8) (n : Nat) (e : Ending) (w' : World) : Prop :=
  (tkE b n ≠ 0 ∧ e = .returned (.tuple #[.slice none 0 0, .int .i64 0, .int .i64 (tkE b n : Int)]) ∧ Below w.heap.size w w') ∨
  (tkE b n = 0 ∧ ∃ A c, e = .returned (.tuple #[.slice A n c, .int .i64 (size8 n : Nat), .int .i64 0]) ∧ w'.ownsRow w.heap.size 4 1 (.slice A n c) n (bools (blN b n)) ∧ Below w.heap.size w w')
theorem blN_snoc (b : List UInt8) (n : Nat) : blN b (n + 1) = blN b n ++ [bitAt b n] := by
  unfold blN
  rw [List.range_succ, List.map_append]; rfl

set_option maxHeartbeats 4000000 in
set_option maxRecDepth 100000 in
theorem rbits_any (B : Nat) (A : Option Addr) (c : Nat) (b : List UInt8) (n : Nat) (w : World) (hr : Rd w B A (cells b)) (hB : B ≤ w.heap.size) (hn : n ≤ 65536) (hb : b.length ≤ 4294967296) :
    Calls Try.prog 70 #[.slice A b.length c, .int .i64 (n : Int)] w (RetBits w b n) := by
  obtain ⟨m, hm⟩ : ∃ m, m = size8 n := ⟨_, rfl⟩
  have hmn : m ≤ n + 7 := by rw [hm]; unfold size8; omega
  have hmI : ((n : Int) + 7) / 8 = (m : Int) := by rw [hm]; unfold size8; omega
  have hm8 : n ≤ 8 * m := by rw [hm]; exact size8_le n
  have HM := Lib.hid hm
  by_cases hLm : b.length < m
  case pos =>
    have he : tkE b n = 20 := by unfold tkE; rw [if_pos (by rw [← hm]; exact hLm)]
    have HE := Lib.hid he
    have hLI : (b.length : Int) < (m : Int) := by omega
    clear he hm
    go_enter Try.func70, Try.ntmps70
    go_wp2_with fail
    go_ret3
    exact .inl ⟨by rw [HE.out]; decide, by rw [HE.out]; rfl, Below.refl _ _⟩
  have htk : tkE b n = if anyBit b n (8 * m) then 21 else 0 := by unfold tkE; rw [if_neg (by rw [← hm]; exact hLm), hm]
  have HTK := Lib.hid htk
  have hLI : (m : Int) ≤ (b.length : Int) := by omega
  have hmL : m ≤ b.length := by omega
  clear hm htk hLm
  go_enter Try.func70, Try.ntmps70
  go_wp2_with fail
  rw [hmI]
  rw [show decide (b.length < m) = false from decide_eq_false (by omega)]
  go_loopw [8, 9] (fun v8 v9 wr => ∃ (k q : Nat), k ≤ 8 * m ∧ v9 = .int .i64 k ∧ q = min k n ∧ (∀ j, n ≤ j → j < k → bitAt b j = false) ∧ wr.ownsRow w.heap.size 4 1 v8 q (bools (blN b q)) ∧ Below w.heap.size w wr) (fun _ v9 _ => 8 * m - (intOf v9).toNat)
  case atStart => exact ⟨0, 0, by omega, rfl, by simp, fun j h1 h2 => by omega, World.ownsRow_nil _ _ _ _, Below.refl _ _⟩
  case round =>
    obtain ⟨k, q, hk, rfl, hq, hno, hown, hbel⟩ := hrel
    have HNO := Lib.hid hno
    have hzr := hbel.size
    clear hno
    by_cases hlt : k < 8 * m
    case neg =>
      have hqn : q = n := by omega
      have hge : 8 * (m : Int) ≤ (k : Int) := by omega
      subst hqn
      have he : tkE b q = 0 := by
        rw [HTK.out, if_neg]
        rw [anyBit_iff]
        rintro ⟨j, h1, h2, h3⟩
        rw [HNO.out j h1 (by omega)] at h3; cases h3
      have HE := Lib.hid he
      obtain ⟨A8, c8, rfl, _⟩ := own_form hown
      clear he hq
      go_wp2_with fail
      try rw [hmI]
      go_ret3
      exact .inr ⟨HE.out, A8, c8, by rw [← HM.out]; rfl, hown, hbel⟩
    have hib : k / 8 < b.length := by omega
    obtain ⟨bb, oo, rfl, hbb, _⟩ := rd_cell hr hib
    obtain ⟨X, hX, hcell0, hbit⟩ := bit_facts hr k hib
    have hcell := (hbel.cell (p := ⟨bb, oo + k / 8, none⟩) (by show bb < _; omega)).trans hcell0
    have hbs := blN_snoc b q
    obtain ⟨bi, hbi⟩ : ∃ x, x = bitAt b k := ⟨_, rfl⟩
    rw [← hbi] at hbit
    obtain ⟨j, hj⟩ : ∃ j, j = k / 8 := ⟨_, rfl⟩
    rw [← hj] at hcell hib
    have hjI : (k : Int) / 8 = (j : Int) := by omega
    have hjLI : (j : Int) < (b.length : Int) := by omega
    have hltI : (k : Int) < 8 * (m : Int) := by omega
    have HBI := Lib.hid hbi
    have HBS := Lib.hid hbs
    clear hbi hj hbs hcell0
    by_cases hkn : k < n
    · have hqk : q = k := by omega
      have hknI : (k : Int) < (n : Int) := by omega
      subst hqk
      clear hq
      go_wp2_with (at_builtin; refine wpList_app El_boolc rfl _ _ rfl (hown.alloc _) rfl rfl (by exact rd_one _ _ _ _ _ rfl (Nat.lt_add_one _)) rfl (by intro u hu; simp at hu; subst hu; rfl) (by unfold maxLen; omega) (by omega) (by simp; omega) ?_; intro x8 w8 g8 hg8 _; have hb8 : Below w.heap.size w w8 := (hbel.alloc hzr _).trans (own_below (hown.alloc _) hg8 (by simp; omega)))
      go_roundw
      case rel =>
        refine ⟨q + 1, q + 1, by omega, by go_num, by omega, fun i h1 h2 => by omega, ?_, hb8⟩
        rw [HBS.out, ← HBI.out]
        unfold bools
        rw [List.map_append]
        exact g8
      case measure => simp [intOf]; omega
    · have hknI : (n : Int) ≤ (k : Int) := by omega
      have hqn : q = n := by omega
      subst hqn
      clear hq
      cases bi
      · go_wp2_with fail
        go_roundw
        case rel =>
          refine ⟨k + 1, q, by omega, by go_num, by omega, fun i h1 h2 => ?_, hown, hbel⟩
          by_cases hik : i = k
          · rw [hik]; exact HBI.out.symm
          · exact HNO.out i h1 (by omega)
        case measure => simp [intOf]; omega
      · have he : tkE b q = 21 := by
          rw [HTK.out, if_pos ((anyBit_iff _ _ _).2 ⟨k, by omega, hlt, HBI.out.symm⟩)]
        have HE := Lib.hid he
        clear he
        go_wp2_with fail
        go_ret3
        exact .inl ⟨by rw [HE.out]; decide, by rw [HE.out]; rfl, hbel⟩
end Go.Proofs.Ythkpgjcnnfdibaa

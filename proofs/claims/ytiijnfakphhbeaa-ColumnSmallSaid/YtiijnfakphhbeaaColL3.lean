/- The laws ColumnBounds, ColumnSmall and ColumnBack (layer 6), walked: true for every input. No condition. -/
import Derived.Test.YtiijnfakphhbeaaColL2
namespace Go.Proofs.Ytiijnfakphhbeaa
open Go.RowKit Go.Maps
set_option linter.unusedVariables false
set_option linter.unusedSimpArgs false

theorem good_of {v : V} (h : mayB v = true) (hn : i64r v.n) : good v := ⟨h, hn⟩
set_option maxHeartbeats 4000000 in
set_option maxRecDepth 100000 in
theorem columnBounds_walk (A : Option Addr) (c : Nat) (l : List V) (W : World) (hl : Rd W W.heap.size A (vcells l)) (hlc : l.length ≤ c ∧ c ≤ maxLen) (hok : ∀ v ∈ l, vok v) :
    Calls Try.prog 8 #[.slice A l.length c] W fun e w' => e = .returned (.bool true) ∧ Below W.heap.size W w' := by
  have KL := Lib.hid (fun w h hB => long_any W.heap.size A c l w h hB)
  obtain ⟨lg, hlg⟩ : ∃ x, x = lng l := ⟨_, rfl⟩
  rw [← hlg] at KL
  rcases lg with _ | _
  case true =>
    clear hlg
    go_enter Try.func8, Try.ntmps8
    go_wp2_with fail
    refine (KL.out W hl (Nat.le_refl _)).mono ?_; rintro e w1 ⟨rfl, rfl⟩
    go_wp2_with fail
    go_ret
    exact ⟨rfl, Below.refl _ _⟩
  obtain ⟨hl5, ht⟩ := lng_false hlg.symm
  have hok3 := vsm_of hok ht
  have HOK := Lib.hid hok3
  have HOV := Lib.hid hok
  obtain ⟨n, hn⟩ : ∃ n, n = l.length := ⟨_, rfl⟩
  have HN := Lib.hid hn
  rw [← hn] at hl5 KL ⊢
  have hln : l.length ≤ 500 := by omega
  clear hlg hok ht hok3 hn hlc
  go_enter Try.func8, Try.ntmps8
  go_wp2_with fail
  refine (KL.out W hl (Nat.le_refl _)).mono ?_; rintro e w1 ⟨rfl, rfl⟩
  go_wp2_with fail
  go_loopw [3] (fun v3 wr => ∃ k : Nat, k ≤ n ∧ v3 = .int .i64 k ∧ (∀ v ∈ l.take k, mayB v = true) ∧ Below W.heap.size W wr) (fun v3 _ => n - (intOf v3).toNat)
  case atStart => exact ⟨0, by omega, rfl, by simp, Below.refl _ _⟩
  case round =>
    obtain ⟨k, hk, rfl, hall, hbel⟩ := hrel
    have HALL := Lib.hid hall
    have hzr := hbel.size
    clear hall
    by_cases hlt : k < n
    case neg =>
      have hkn : k = n := by omega
      have hgood : ∀ v ∈ l, good v := fun v hv => by
        have h := HALL.out v (by rw [hkn, HN.out, List.take_length]; exact hv)
        exact ⟨h, (HOV.out v hv).2.1⟩
      have hbe := bnds_eq l hgood
      have hge : (n : Int) ≤ (k : Int) := by omega
      have B1 := bounds_any W.heap.size A c l wr (hl.below hbel) hzr (by omega) HOK.out
      have B2 := fun w h hB => rbounds_any W.heap.size A c l w h hB (by omega)
      rw [← HN.out] at B1 B2
      rw [hbe] at B1
      generalize bndV l = q at *
      obtain ⟨⟨k1, n1, t1⟩, ⟨k2, n2, t2⟩⟩ := q
      dsimp only at B1 B2
      have H1 := Lib.hid B1
      have H2 := Lib.hid B2
      clear hgood hbe B1 B2 hkn
      go_wp2_with fail
      refine H1.out.mono ?_; rintro e w2 ⟨rfl, hb2⟩
      have hb02 : Below W.heap.size W w2 := hbel.trans (hb2.mono hzr)
      go_wp2_with fail
      obtain ⟨w3, hw3⟩ : ∃ w3, w3 = (w2.alloc (cells3 ⟨k1, n1, t1⟩)).alloc (cells3 ⟨k2, n2, t2⟩) := ⟨_, rfl⟩
      have hw3' : w3 = (w2.alloc (.cells #[.int .u8 (k1 : Int), .int .i64 n1, .string ⟨t1.toArray⟩] 38)).alloc (.cells #[.int .u8 (k2 : Int), .int .i64 n2, .string ⟨t2.toArray⟩] 38) := hw3
      rw [← hw3']
      have g0 : w3.heap[w2.heap.size]? = some (cells3 ⟨k1, n1, t1⟩) := by rw [hw3]; exact block_al (heap_alloc_new w2 _) _
      have g1 : w3.heap[w2.heap.size + 1]? = some (cells3 ⟨k2, n2, t2⟩) := by
        have h := heap_alloc_new (w2.alloc (cells3 ⟨k1, n1, t1⟩)) (cells3 ⟨k2, n2, t2⟩)
        rw [World.size_alloc] at h; rw [hw3]; exact h
      have hb03 : Below W.heap.size W w3 := by rw [hw3]; exact (hb02.alloc hb02.size _).alloc (by have := hb02.size; simp; omega) _
      have hz3 := hb03.size
      clear hw3 hw3'
      refine (H2.out w3 (hl.below hb03) hz3).mono ?_; rintro e w4 ⟨rfl, hb4⟩
      have k0 := (hb4.block _ (lt_of_block g0)).trans g0
      have k1' := (hb4.block _ (lt_of_block g1)).trans g1
      obtain ⟨a0, a1, a2⟩ := three_cells k0
      obtain ⟨b0, b1, b2⟩ := three_cells k1'
      have q0 := lt_of_block k0
      have q1 := lt_of_block k1'
      have hb04 : Below W.heap.size W w4 := hb03.trans (hb4.mono hz3)
      clear g0 g1 k0 k1'
      go_wp2_with fail
      refine (puts_any _).mono ?_; rintro e w8 ⟨rfl, hb8⟩
      go_wp2_with fail
      go_ret
      exact ⟨rfl, ((hb04.alloc hb04.size _).alloc (by have := hb04.size; simp; omega) _).trans (hb8.mono (by have := hb04.size; simp; omega))⟩
    obtain ⟨v, hv⟩ : ∃ v, l[k]? = some v := ⟨_, List.getElem?_eq_getElem (by rw [← HN.out]; exact hlt)⟩
    obtain ⟨gb, go, rfl, hgb, q0, q1, q2⟩ := rd_val hl hv
    have r0 := (hbel.cell (p := ⟨gb, go + k * 3, none⟩) (by show gb < _; omega)).trans q0
    have r1 := (hbel.cell (p := ⟨gb, go + k * 3 + 1, none⟩) (by show gb < _; omega)).trans q1
    have r2 := (hbel.cell (p := ⟨gb, go + k * 3 + 2, none⟩) (by show gb < _; omega)).trans q2
    have hkI : (k : Int) < (n : Int) := by omega
    have M0 := fun w => May_any v (HOV.out v (List.mem_of_getElem? hv)).1 w
    obtain ⟨mv, hmv⟩ : ∃ m, m = mayB v := ⟨_, rfl⟩
    rw [← hmv] at M0
    have HM := Lib.hid M0
    have HMV := Lib.hid hmv
    have HV := Lib.hid hv
    clear q0 q1 q2 hv M0 hmv
    go_wp2_with fail
    refine (HM.out _).mono ?_; rintro e w4 ⟨rfl, hb4⟩
    have hb04 : Below W.heap.size W w4 := hbel.trans (hb4.mono hzr)
    cases mv
    · go_wp2_with fail
      refine (puts_any _).mono ?_; rintro e w8 ⟨rfl, hb8⟩
      go_wp2_with fail
      go_ret
      exact ⟨rfl, hb04.trans (hb8.mono hb04.size)⟩
    · go_wp2_with fail
      go_roundw
      case rel =>
        refine ⟨k + 1, by omega, by go_num, fun u hu => ?_, hb04⟩
        rw [List.take_add_one, HV.out] at hu
        rcases List.mem_append.1 hu with h | h
        · exact HALL.out u h
        · simp at h; rw [h]; exact HMV.out.symm
      case measure => simp [intOf]; omega

/-! ### one text alone -/
theorem words_rep (s : List UInt8) : ∀ (k : Nat), words (List.replicate k (⟨3, 0, s⟩ : V)) = if k = 0 then [] else [s]
  | 0 => rfl
  | k + 1 => by
    have ih := words_rep s k
    have e : List.replicate (k + 1) (⟨3, 0, s⟩ : V) = List.replicate k ⟨3, 0, s⟩ ++ [⟨3, 0, s⟩] := List.replicate_succ'
    unfold words at ih ⊢
    rw [e, wordsF_app, ih]
    by_cases hk : k = 0
    · subst hk; simp [wordsF, addWord]
    · rw [if_neg hk]; simp [wordsF, addWord]
theorem small_len (s : List UInt8) (k : Nat) (hs : s.length ≤ 300) (hk : k ≤ 500) : colok 3 (List.replicate k (⟨3, 0, s⟩ : V)) = true ∧ (cput 3 (List.replicate k (⟨3, 0, s⟩ : V))).1.length ≤ (k + 7) / 8 + s.length + 7 + k := by
  have hco : colok 3 (List.replicate k (⟨3, 0, s⟩ : V)) = true := by
    unfold colok
    simp only [List.length_replicate, Bool.and_eq_true, decide_eq_true_eq, List.all_eq_true]
    refine ⟨by decide, by omega, fun v hv => ?_⟩
    rw [(List.mem_replicate.1 hv).2]
    unfold rmay mayB; simp
  refine ⟨hco, ?_⟩
  rw [cput_of hco]
  have hm : marks (List.replicate k (⟨3, 0, s⟩ : V)) = List.replicate k ⟨3, 0, s⟩ := marks_all fun v hv => by rw [(List.mem_replicate.1 hv).2]; simp
  dsimp only
  rw [hm, List.length_append, bitsN_len, List.length_replicate]
  have hc : cbody 3 (List.replicate k (⟨3, 0, s⟩ : V)) = tput (List.replicate k ⟨3, 0, s⟩) := by unfold cbody; rw [if_neg (by decide), if_neg (by decide)]
  rw [hc]
  unfold tput
  rw [words_rep]
  have hsm : ∀ x : Nat, x < 128 → (vput x).length = 1 := fun x h => by rw [vput_small h]; rfl
  have h16 : ∀ x : Nat, x ≤ 300 → (vput x).length ≤ 2 := fun x h => vput_length 1 x (by omega)
  have hfl : ∀ (j : Nat) (W : List (List UInt8)), (W.idxOf s < 128) → ((List.replicate j (⟨3, 0, s⟩ : V)).flatMap fun v => whichB W v.t).length = j := by
    intro j W hW
    induction j with
    | zero => rfl
    | succ j ih =>
      rw [List.replicate_succ, List.flatMap_cons, List.length_append, ih]
      unfold whichB
      rw [hsm _ hW]; omega
  rw [List.length_append, List.length_append]
  unfold size8
  by_cases hk0 : k = 0
  · subst hk0
    simp [hsm 0 (by omega)]
  · rw [if_neg hk0, hfl k [s] (by simp)]
    have h1 : ([s].flatMap wbytes).length = (vput s.length).length + s.length := by simp [wbytes]
    have h2 := h16 s.length hs
    rw [h1]
    have h3 : (vput ([s].length)).length = 1 := hsm 1 (by omega)
    omega
set_option maxHeartbeats 4000000 in
set_option maxRecDepth 100000 in
theorem columnSmall_walk (s : List UInt8) (a : Int) (W : World) (hs : s.length ≤ maxLen) (ha : 0 ≤ a ∧ a < 65536) :
    Calls Try.prog 7 #[txt s, .int .u16 a] W fun e w' => e = .returned (.bool true) ∧ Below W.heap.size W w' := by
  obtain ⟨by_, HEL, hby⟩ := El_val
  unfold maxLen at hs
  by_cases h3 : 300 < s.length
  · have hI : (300 : Int) < (s.length : Int) := by omega
    go_enter Try.func7, Try.ntmps7
    go_wp2_with fail
    go_ret
    exact ⟨rfl, Below.refl _ _⟩
  have hI : (s.length : Int) ≤ 300 := by omega
  obtain ⟨k, hk⟩ : ∃ k : Nat, (k : Int) = a % 501 := ⟨(a % 501).toNat, by omega⟩
  have hk5 : k ≤ 500 := by omega
  have HK := Lib.hid hk
  obtain ⟨hco, hlen⟩ := small_len s k (by omega) hk5
  have hps := put_sizes (t := 3) (l := List.replicate k (⟨3, 0, s⟩ : V)) (fun v hv => by rw [(List.mem_replicate.1 hv).2]; exact ⟨by unfold i64r; dsimp only; omega, by dsimp only; omega⟩)
  have P1 := fun (A : Option Addr) (c : Nat) (w : World) h1 => cput_any 3 A c (List.replicate k (⟨3, 0, s⟩ : V)) w h1 (fun v hv => by rw [(List.mem_replicate.1 hv).2]; exact ⟨by dsimp only; omega, by unfold i64r; dsimp only; omega, by dsimp only; omega⟩) (by rw [List.length_replicate]; omega) hps.1 hps.2
  have he := cput_of hco
  obtain ⟨x, hx⟩ : ∃ x, x = (cput 3 (List.replicate k (⟨3, 0, s⟩ : V))).1 := ⟨_, rfl⟩
  have hx2 : cput 3 (List.replicate k (⟨3, 0, s⟩ : V)) = (x, 0) := by rw [hx, he]
  rw [← hx] at hlen
  simp only [hx2, List.length_replicate] at P1
  have HP := Lib.hid P1
  have hlenI : (x.length : Int) ≤ ((k : Int) + 7) / 8 + (s.length : Int) + 7 + (k : Int) := by omega
  have HLI := Lib.hid hlenI
  clear hk hco hlen hps P1 he hx hx2 hlenI h3
  go_enter Try.func7, Try.ntmps7
  go_wp2_with fail
  try rw [← HK.out]
  go_loopw [6, 7] (fun v6 v7 wr => ∃ j : Nat, j ≤ k ∧ v7 = .int .i64 j ∧ wr.ownsRow W.heap.size 38 3 v6 j (vcells (List.replicate j ⟨3, 0, s⟩)) ∧ Below W.heap.size W wr) (fun _ v7 _ => k - (intOf v7).toNat)
  case atStart => exact ⟨0, by omega, rfl, World.ownsRow_nil _ _ _ _, Below.refl _ _⟩
  case round =>
    obtain ⟨j, hj, rfl, hown, hbel⟩ := hrel
    have hzr := hbel.size
    by_cases hlt : j < k
    case neg =>
      have hjk : j = k := by omega
      subst hjk
      have hge : ¬ ((j : Int) < (j : Int)) := by omega
      obtain ⟨A6, c6, rfl, _⟩ := own_form hown
      have hrd := rd_own hown
      have hli := HLI.out
      go_wp2_with fail
      refine (HP.out A6 c6 wr hrd).mono ?_; rintro e w2 ⟨A2, c2, rfl, hown2, hb2⟩
      have hb02 : Below W.heap.size W w2 := hbel.trans (hb2.mono hzr)
      dsimp only
      go_wp2_with fail
      refine (puts_any _).mono ?_; rintro e w8 ⟨rfl, hb8⟩
      go_wp2_with fail
      go_ret
      exact ⟨rfl, hb02.trans (hb8.mono hb02.size)⟩
    have hjI : (j : Int) < (k : Int) := by omega
    go_wp2_with (at_builtin; refine wpList_app HEL rfl _ _ rfl (hown.alloc _) rfl rfl (cv_three (⟨3, 0, s⟩ : V) rfl) rfl (cv_one _) (by unfold maxLen; omega) (by have : (j + 1) * by_ ≤ 501 * 64 := Nat.mul_le_mul (by omega) hby; omega) (by simp; omega) ?_; intro v4 w4 hown4 hg4 ho4)
    have hb4 : Below W.heap.size W w4 := (hbel.alloc hzr _).trans (own_below (hown.alloc _) hg4 (by simp; omega))
    go_roundw
    case rel =>
      refine ⟨j + 1, by omega, by go_num, ?_, hb4⟩
      rw [List.replicate_succ', vcells_snoc]; exact hown4
    case measure => simp [intOf]; omega
theorem u16_bd {a : Int} (h : (Lit.int .u16 a).wf = true) : 0 ≤ a ∧ a < 65536 := by
  simp [Lit.wf, IntKind.min, IntKind.max, IntKind.signed, IntKind.bits] at h
  omega
theorem columnSmall_str (s : ByteArray) (a : Int) (W : World) (hs : s.size ≤ maxLen) (ha : 0 ≤ a ∧ a < 65536) :
    Calls Try.prog 7 #[.string s, .int .u16 a] W fun e w' => e = .returned (.bool true) ∧ Below W.heap.size W w' := by
  obtain ⟨⟨l⟩⟩ := s
  exact columnSmall_walk l a W hs ha
end Go.Proofs.Ytiijnfakphhbeaa

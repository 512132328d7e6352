/- The law KeyKnown (layer 3), walked: it answers true. No condition. -/
import Derived.Test.YtdbhbfpfcdklmaaKeyL4
namespace Go.Proofs.Ytdbhbfpfcdklmaa
open Go.RowKit
set_option linter.unusedVariables false
set_option linter.unusedSimpArgs false

def tblK : List (List UInt8 × Nat) := [([5], 21), ([0], 21), ([2], 20), ([2, 2], 21), ([4, 97], 20), ([4, 0, 2], 21), ([4, 0], 20), ([], 0), ([3, 0], 20), ([1, 1], 0), ([4, 0, 1], 0), ([4, 0, 255, 0, 1], 0)]
theorem tblK_ok : ∀ k (hk : k < 12), (kparse (tblK[k]'hk).1).2 = (tblK[k]'hk).2
  | 0, _ => (by decide +kernel : (kparse [5]).2 = 21)
  | 1, _ => (by decide +kernel : (kparse [0]).2 = 21)
  | 2, _ => (by decide +kernel : (kparse [2]).2 = 20)
  | 3, _ => (by decide +kernel : (kparse [2, 2]).2 = 21)
  | 4, _ => (by decide +kernel : (kparse [4, 97]).2 = 20)
  | 5, _ => (by decide +kernel : (kparse [4, 0, 2]).2 = 21)
  | 6, _ => (by decide +kernel : (kparse [4, 0]).2 = 20)
  | 7, _ => (by decide +kernel : (kparse []).2 = 0)
  | 8, _ => (by decide +kernel : (kparse [3, 0]).2 = 20)
  | 9, _ => (by decide +kernel : (kparse [1, 1]).2 = 0)
  | 10, _ => (by decide +kernel : (kparse [4, 0, 1]).2 = 0)
  | 11, _ => (by decide +kernel : (kparse [4, 0, 255, 0, 1]).2 = 0)
theorem tblK_bd : ∀ p ∈ tblK, p.1.length ≤ 10 := by decide +kernel
abbrev tcellsK : List Value := tblK.flatMap fun p => [.string ⟨p.1.toArray⟩, .int .i64 (p.2 : Int)]
theorem tcellsK_at : ∀ k (hk : k < 12), tcellsK[k * 2]? = some (.string ⟨(tblK[k]'hk).1.toArray⟩) ∧ tcellsK[k * 2 + 1]? = some (.int .i64 ((tblK[k]'hk).2 : Int))
  | 0, _ => ⟨rfl, rfl⟩
  | 1, _ => ⟨rfl, rfl⟩
  | 2, _ => ⟨rfl, rfl⟩
  | 3, _ => ⟨rfl, rfl⟩
  | 4, _ => ⟨rfl, rfl⟩
  | 5, _ => ⟨rfl, rfl⟩
  | 6, _ => ⟨rfl, rfl⟩
  | 7, _ => ⟨rfl, rfl⟩
  | 8, _ => ⟨rfl, rfl⟩
  | 9, _ => ⟨rfl, rfl⟩
  | 10, _ => ⟨rfl, rfl⟩
  | 11, _ => ⟨rfl, rfl⟩
abbrev badK : List V := [⟨1, 2, []⟩, ⟨1, -1, []⟩, ⟨4, 0, []⟩, ⟨0, 1, []⟩, ⟨0, 0, [97]⟩, ⟨2, 0, [97]⟩, ⟨3, 1, []⟩, ⟨1, 0, [97]⟩]
theorem badK_ok : ∀ v ∈ badK, mayB v = false ∧ v.k < 256 ∧ -9223372036854775808 ≤ v.n ∧ v.n ≤ 9223372036854775807 := by decide +kernel
theorem known1 : kapp [] [⟨3, 0, [0]⟩] = ([4, 0, 255, 0, 1], 0) := by decide +kernel
theorem known2 : kapp [] [⟨2, -9223372036854775808, []⟩, ⟨2, 9223372036854775807, []⟩] = ([3, 0, 0, 0, 0, 0, 0, 0, 0, 3, 255, 255, 255, 255, 255, 255, 255, 255], 0) := by decide +kernel
theorem known3 : kapp [9] [] = ([9], 0) := by decide +kernel

set_option maxHeartbeats 2000000 in
set_option maxRecDepth 100000 in
theorem keyKnown_walk (W : World) :
    Calls Try.prog 6 #[] W fun e w' => e = .returned (.bool true) ∧ Below W.heap.size W w' := by
  have hcells : ∀ o w', Below (W.heap.size + 1) (W.alloc (.cells tcellsK.toArray o)) w' → ∀ k (hk : k < 12),
      w'.cell? ⟨W.heap.size, k * 2, none⟩ = some (.string ⟨(tblK[k]'hk).1.toArray⟩) ∧ w'.cell? ⟨W.heap.size, k * 2 + 1, none⟩ = some (.int .i64 ((tblK[k]'hk).2 : Int)) := by
    intro o w' hb k hk
    have h := tcellsK_at k hk
    rw [hb.cell (p := ⟨W.heap.size, k * 2, none⟩) (Nat.lt_succ_self _), hb.cell (p := ⟨W.heap.size, k * 2 + 1, none⟩) (Nat.lt_succ_self _), cell_of_row _ W.heap.size _ _ _ _ (heap_alloc_new W _), cell_of_row _ W.heap.size _ _ _ _ (heap_alloc_new W _)]
    simp only [List.getElem?_toArray]
    exact h
  have HC := Lib.hid hcells
  clear hcells
  go_enter Try.func6, Try.ntmps6
  go_wp2
  go_loopw [2] (fun vi wr => ∃ k : Nat, k ≤ 12 ∧ vi = .int .i64 k ∧ Below (W.heap.size + 1) (W.alloc (.cells tcellsK.toArray 36)) wr)
    (fun vi _ => (12 - intOf vi).toNat)
  case atStart => exact ⟨0, by omega, rfl, Below.refl _ _⟩
  case round =>
    obtain ⟨k, hk, rfl, hbel⟩ := hrel
    have hz := hbel.size
    simp only [World.size_alloc] at hz
    have hb0 : Below W.heap.size W wr := ((Below.refl _ _).alloc (Nat.le_refl _) _).trans (hbel.mono (by omega))
    by_cases hk12 : k < 12
    · obtain ⟨q0, q1⟩ := HC.out 36 wr hbel k hk12
      have hv := tblK_ok k hk12
      have hlb := tblK_bd (tblK[k]'hk12) (List.getElem_mem _)
      obtain ⟨⟨bs, e⟩, hbs⟩ : ∃ p, p = tblK[k]'hk12 := ⟨_, rfl⟩
      have HC2 := Lib.hid (fun w' hw => (HC.out 36 w' hw k hk12).2)
      rw [← hbs] at q0 q1 hv hlb HC2
      clear hbs
      dsimp only at q0 q1 hv hlb
      obtain ⟨ms, hms⟩ : ∃ m, kparse bs = (m, e) := ⟨(kparse bs).1, by rw [← hv]⟩
      obtain ⟨c5, o5, hcv, hrd, hle⟩ := conv_str wr bs
      have P1 := Lib.hid (Parse_any (wr.heap.size + 1) (some ⟨wr.heap.size, 0, none⟩) c5 bs (wr.drew.alloc o5) hrd hle (by rw [World.size_alloc]; exact Nat.le_refl _) (by omega))
      rw [hms] at P1
      have hkI : (k : Int) < 12 := by omega
      have HMS := Lib.hid hms
      clear hv hms hrd
      go_wp2_with fail
      refine (P1.out).mono ?_; rintro ee w4 ⟨A4, c4, rfl, hown4, hb4⟩
      dsimp only at hown4 ⊢
      have hbel4 : Below (W.heap.size + 1) (W.alloc (.cells tcellsK.toArray 36)) w4 := (hbel.drew.alloc (by simpa using hz) _).trans (hb4.mono (by simp; omega))
      have q2 := HC2.out w4 hbel4
      clear hcv
      rcases kparse_inv HMS.out with ⟨rfl, _, _⟩ | ⟨rfl, h2⟩
      · go_wp2_with fail
        go_roundw
        case rel => exact ⟨k + 1, by omega, by go_num, hbel4⟩
        case measure => simp [intOf]; omega
      · have he : ((e : Int) != 0) = true := by rcases h2 with rfl | rfl <;> rfl
        clear h2
        go_wp2_with fail
        go_roundw
        case rel => exact ⟨k + 1, by omega, by go_num, hbel4⟩
        case measure => simp [intOf]; omega
    · have hk12' : k = 12 := by omega
      subst hk12'
      clear HC hbel
      have hrdB : Rd (wr.alloc (.cells (vcells badK).toArray 39)) (wr.heap.size + 1) (some ⟨wr.heap.size, 0, none⟩) (vcells badK) := rd_arr wr _ _ _ _ rfl (by omega)
      have hb1 : Below W.heap.size W (wr.alloc (.cells (vcells badK).toArray 39)) := hb0.alloc (by omega) _
      have hz1 : (wr.alloc (.cells (vcells badK).toArray 39)).heap.size = wr.heap.size + 1 := by simp
      obtain ⟨w1, hw1⟩ : ∃ w1, w1 = wr.alloc (.cells (vcells badK).toArray 39) := ⟨_, rfl⟩
      rw [← hw1] at hrdB hb1 hz1
      have HW1 := Lib.hid hw1
      obtain ⟨B1, hB1⟩ : ∃ B1, B1 = wr.heap.size + 1 := ⟨_, rfl⟩
      rw [← hB1] at hrdB hz1
      have HB1 := Lib.hid hB1
      clear hw1 hB1
      go_wp2_with fail
      go_loopw [6] (fun vi wx => ∃ k : Nat, k ≤ 8 ∧ vi = .int .i64 k ∧ Below B1 w1 wx) (fun vi _ => (8 - intOf vi).toNat)
      case atStart => exact ⟨0, by omega, rfl, by rw [HW1.out]; exact Below.refl _ _⟩
      case round =>
        obtain ⟨k, hk, rfl, hbel⟩ := hrel
        have hz2 := hbel.size
        have hb2 : Below W.heap.size W wr := hb1.trans (hbel.mono (by have := hb0.size; have := HB1.out; omega))
        by_cases hk8 : k < 8
        · obtain ⟨v, hv⟩ : ∃ v, badK[k]? = some v := ⟨_, List.getElem?_eq_getElem (by simpa using hk8)⟩
          obtain ⟨gm, gk, gn⟩ := badK_ok v (List.mem_of_getElem? hv)
          obtain ⟨gb, go, hgA, hgb, q0, q1, q2⟩ := rd_val (hrdB.below hbel) hv
          cases hgA
          simp only [Nat.zero_add] at q0 q1 q2
          have s0 := fun o => cell_al q0 (cell_lt q0) o
          have s1 := fun o => cell_al q1 (cell_lt q1) o
          have s2 := fun o => cell_al q2 (cell_lt q2) o
          have hka : kapp [9] [null, v] = ([], 1) := by
            unfold kapp
            rw [if_neg]
            simp only [List.all_cons, List.all_nil, gm, Bool.and_false, Bool.false_and]
            simp
          have hkl := kone_le v
          have hvt : v.t.length ≤ 10 := by
            have h : ∀ v ∈ badK, v.t.length ≤ 10 := by decide +kernel
            exact h v (List.mem_of_getElem? hv)
          have r1 : Rd ((wr.alloc (.cells #[.int .u8 9] 5)).alloc (.cells (vcells [null, v]).toArray 39)) (wr.heap.size + 2) (some ⟨wr.heap.size, 0, none⟩) (cells [9]) := by
            have h := rd_arr wr (cells [9]) 5 wr.heap.size (wr.heap.size + 1) rfl (by omega)
            exact (h.alloc (by simp) _).more (by omega)
          have r2 : Rd ((wr.alloc (.cells #[.int .u8 9] 5)).alloc (.cells (vcells [null, v]).toArray 39)) (wr.heap.size + 2) (some ⟨wr.heap.size + 1, 0, none⟩) (vcells [null, v]) := rd_arr _ _ _ _ _ (by simp) (by omega)
          have A1 := Append_any (wr.heap.size + 2) (some ⟨wr.heap.size, 0, none⟩) (some ⟨wr.heap.size + 1, 0, none⟩) 1 2 [9] [null, v] _ r1 r2 (by simp) (by
            simp only [List.flatMap_cons, List.flatMap_nil, List.length_append, List.length_cons, List.length_nil]
            have : (kone null).length = 1 := rfl
            omega) (by simp) (by
            intro x hx
            simp at hx
            rcases hx with rfl | rfl
            · exact ⟨by decide, by decide, by decide⟩
            · exact ⟨gk, gn⟩)
          rw [hka] at A1
          have HA1 := Lib.hid A1
          have hkI : (k : Int) < 8 := by omega
          clear A1 hka r1 r2 hv gm gn gk hkl hvt
          go_wp2_with fail
          refine (HA1.out).mono ?_; rintro ee w5 ⟨A5, c5, rfl, hown5, hb5⟩
          dsimp only at hown5 ⊢
          have hbel5 : Below B1 w1 w5 := ((hbel.alloc (by omega) _).alloc (by simp; omega) _).trans (hb5.mono (by simp; omega))
          go_wp2_with fail
          go_roundw
          case rel => exact ⟨k + 1, by omega, by go_num, hbel5⟩
          case measure => simp [intOf]; omega
        · have hk8' : k = 8 := by omega
          subst hk8'
          clear hrdB HW1 HB1 hbel hz2 hz1 hb1
          have hgs : ∀ (l : List V) (w : World), Rd (w.alloc (.cells (vcells l).toArray 39)) (w.heap.size + 1) (some ⟨w.heap.size, 0, none⟩) (vcells l) := fun l w => rd_arr w _ _ _ _ rfl (by omega)
          have K1 := Append_any (wr.heap.size + 1) none (some ⟨wr.heap.size, 0, none⟩) 0 1 [] [⟨3, 0, [0]⟩] _ (.inl rfl) (hgs _ wr) (by simp) (by decide +kernel) (by decide) (by
            intro v hv
            simp at hv
            subst hv
            exact ⟨by decide, by decide, by decide⟩)
          rw [known1] at K1
          have K2 := fun w => Append_any (w.heap.size + 1) none (some ⟨w.heap.size, 0, none⟩) 0 2 [] [⟨2, -9223372036854775808, []⟩, ⟨2, 9223372036854775807, []⟩] _ (.inl rfl) (hgs _ w) (by simp) (by decide +kernel) (by decide) (by
            intro v hv
            simp at hv
            rcases hv with rfl | rfl <;> exact ⟨by decide, by decide, by decide⟩)
          rw [known2] at K2
          have K3 := fun (w : World) => Append_any (w.heap.size + 1) (some ⟨w.heap.size, 0, none⟩) none 1 0 [9] [] _ (rd_arr w (cells [9]) 5 _ _ rfl (by omega)) (.inl rfl) (by simp) (by decide +kernel) (by decide) (by simp)
          rw [known3] at K3
          have H1 := Lib.hid K1
          have H2 := Lib.hid K2
          have H3 := Lib.hid K3
          clear K1 K2 K3 hgs
          go_wp2_with fail
          refine (H1.out).mono ?_; rintro ee w5 ⟨A5, c5, rfl, hown5, hb5⟩
          dsimp only at hown5 ⊢
          have hb05 : Below W.heap.size W w5 := (hb2.alloc hb2.size _).trans (hb5.mono (by have := hb2.size; simp; omega))
          go_wp2_with fail
          refine (H2.out w5).mono ?_; rintro ee w6 ⟨A6, c6, rfl, hown6, hb6⟩
          dsimp only at hown6 ⊢
          have hb06 : Below W.heap.size W w6 := (hb05.alloc hb05.size _).trans (hb6.mono (by have := hb05.size; simp; omega))
          go_wp2_with fail
          refine (H3.out w6).mono ?_; rintro ee w7 ⟨A7, c7, rfl, hown7, hb7⟩
          dsimp only at hown7 ⊢
          have hb07 : Below W.heap.size W w7 := (hb06.alloc hb06.size _).trans (hb7.mono (by have := hb06.size; simp; omega))
          have CV1 := conv_own (own_bel ((own_bel (hown5.alloc _) hb6).alloc _) hb7)
          have CV2 := conv_own (own_bel (hown6.alloc _) hb7)
          have CV3 := conv_own hown7
          clear hown5 hown6 hown7
          dsimp only [List.length_cons, List.length_nil] at CV1 CV2 CV3
          go_wp2_with fail
          refine (keys_any w7).mono ?_; rintro ee w8 ⟨rfl, hb8⟩
          have hb08 : Below W.heap.size W w8 := hb07.trans (hb8.mono hb07.size)
          go_wp2_with fail
          go_ret
          exact ⟨rfl, hb08⟩
end Go.Proofs.Ytdbhbfpfcdklmaa

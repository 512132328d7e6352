/- The law RowKnown (layer 4), walked: it answers true. No condition. -/
import Derived.Test.YtfnbckgpldkgmaaRowL2
namespace Go.Proofs.Ytfnbckgpldkgmaa
open Go.RowKit Go.Maps
set_option linter.unusedVariables false
set_option linter.unusedSimpArgs false

def tblR : List (List UInt8 × Nat) := [([4, 1, 2, 97, 98, 0], 21), ([4, 1, 2, 97], 20), ([8, 1, 2, 97, 98, 0], 21), ([], 20), ([7], 0), ([7, 0], 21), ([3, 2], 21), ([3, 1], 0), ([6, 128, 0], 21), ([6, 128], 20), ([5, 255, 255, 255, 255, 255, 255, 255, 255, 255, 1], 20), ([5, 0], 0), ([128], 21), ([3], 20)]
theorem tblR_all : ∀ p ∈ tblR, (rget pT p.1).2 = p.2 ∧ p.1.length ≤ 20 := by decide +kernel
abbrev tcellsR : List Value := tblR.flatMap fun p => [.string ⟨p.1.toArray⟩, .int .i64 (p.2 : Int)]
theorem tcellsR_at : ∀ k (hk : k < 14), tcellsR[k * 2]? = some (.string ⟨(tblR[k]'hk).1.toArray⟩) ∧ tcellsR[k * 2 + 1]? = some (.int .i64 ((tblR[k]'hk).2 : Int))
  | 0, _ => ⟨rfl, rfl⟩
  | 1, _ => ⟨rfl, rfl⟩
  | 2, _ => ⟨rfl, rfl⟩
  | 3, _ => ⟨rfl, rfl⟩
  | 4, _ => ⟨rfl, rfl⟩
  | 5, _ => ⟨rfl, rfl⟩
  | 6, _ => ⟨rfl, rfl⟩
  | 7, _ => ⟨rfl, rfl⟩
  | 8, _ => ⟨rfl, rfl⟩
  | 9, _ => ⟨rfl, rfl⟩
  | 10, _ => ⟨rfl, rfl⟩
  | 11, _ => ⟨rfl, rfl⟩
  | 12, _ => ⟨rfl, rfl⟩
  | 13, _ => ⟨rfl, rfl⟩
theorem put_lit (T : List UInt8) (l : List V) (w : World) (hT : T.length ≤ 60) (hl : l.length ≤ 60) (hok : ∀ v ∈ l, v.k < 256 ∧ i64r v.n ∧ v.t.length ≤ 1000000) (hlen : (rbytes l).length ≤ 4294967296) :
    Calls Try.prog 10 #[.slice (some ⟨w.heap.size, 0, none⟩) T.length T.length, .slice (some ⟨w.heap.size + 1, 0, none⟩) l.length l.length] ((w.alloc (.cells (cells T).toArray 5)).alloc (.cells (vcells l).toArray 37))
      (RetBE ((w.alloc (.cells (cells T).toArray 5)).alloc (.cells (vcells l).toArray 37)) (rput T l)) := by
  have h1 := rd_arr w (cells T) 5 w.heap.size (w.heap.size + 1) rfl (by omega)
  have h2 := rd_arr (w.alloc (.cells (cells T).toArray 5)) (vcells l) 37 (w.heap.size + 1) (w.heap.size + 2) (by simp) (by omega)
  exact Put_row (w.heap.size + 2) _ _ _ _ T l _ ((h1.alloc (by simp) _).more (by omega)) h2 (by simp) (by omega) (by omega) hok hlen
theorem get_lit (T b : List UInt8) (w : World) (hT : T.length ≤ 60) (hb : b.length ≤ 60) :
    Calls Try.prog 14 #[.slice (some ⟨w.heap.size, 0, none⟩) T.length T.length, .slice (some ⟨w.heap.size + 1, 0, none⟩) b.length b.length] ((w.alloc (.cells (cells T).toArray 5)).alloc (.cells (cells b).toArray 5))
      (RetVE ((w.alloc (.cells (cells T).toArray 5)).alloc (.cells (cells b).toArray 5)) (rget T b)) := by
  have h1 := rd_arr w (cells T) 5 w.heap.size (w.heap.size + 1) rfl (by omega)
  have h2 := rd_arr (w.alloc (.cells (cells T).toArray 5)) (cells b) 5 (w.heap.size + 1) (w.heap.size + 2) (by simp) (by omega)
  exact Get_row (w.heap.size + 2) _ _ _ _ T b _ ((h1.alloc (by simp) _).more (by omega)) h2 (by simp) (Nat.le_refl _) (by omega) (by omega)
theorem rk1 : rput [2] [⟨1, 0, []⟩] = ([], 1) := by decide +kernel
theorem rk2 : rput [0] [null] = ([], 1) := by decide +kernel
theorem rk3 : rput [] [] = ([], 0) := by decide +kernel
theorem rk4 : rput pT [] = ([], 1) := by decide +kernel
theorem rk5 : rget [4] [0] = ([], 1) := by decide +kernel
theorem rk6 : rget [] [] = ([], 0) := by decide +kernel
theorem rk7 : rget [] [0] = ([], 21) := by decide +kernel
abbrev nine : List UInt8 := [1, 1, 1, 1, 1, 1, 1, 1, 1]
theorem rk8 : rput nine (List.replicate 9 null) = ([255, 1], 0) := by decide +kernel
theorem got_len {b : List UInt8} (hb : b.length ≤ 1000) {m : List V} {e : Nat} (h : rget pT b = (m, e)) : (e = 0 ∧ m.length = 3) ∨ (e ≠ 0 ∧ m = []) := by
  by_cases he : e = 0
  · subst he
    obtain ⟨_, h2, _⟩ := row_put_get (by unfold maxLen; omega) h
    unfold rowok at h2
    rw [Bool.and_eq_true, decide_eq_true_eq] at h2
    exact .inl ⟨rfl, h2.1⟩
  · rcases rget_err pT b with h1 | ⟨h1, _⟩
    · rw [h] at h1; exact absurd h1 he
    · rw [h] at h1; exact .inr ⟨he, h1⟩

set_option maxHeartbeats 8000000 in
set_option maxRecDepth 100000 in
theorem rowKnown_walk (W : World) :
    Calls Try.prog 8 #[] W fun e w' => e = .returned (.bool true) ∧ Below W.heap.size W w' := by
  obtain ⟨W0, hW0⟩ : ∃ W0, W0 = W.alloc (.cells (cells pT).toArray 5) := ⟨_, rfl⟩
  obtain ⟨W1, hW1⟩ : ∃ W1, W1 = W0.alloc (.cells tcellsR.toArray 39) := ⟨_, rfl⟩
  have hz0 : W0.heap.size = W.heap.size + 1 := by rw [hW0]; simp
  have hz1 : W1.heap.size = W.heap.size + 2 := by rw [hW1]; simp; omega
  have hT1 : Rd W1 (W.heap.size + 1) (some ⟨W.heap.size, 0, none⟩) (cells pT) := by
    rw [hW1]
    refine Rd.alloc ?_ (by omega) _
    rw [hW0]; exact rd_arr W _ _ _ _ rfl (by omega)
  have hb01 : Below W.heap.size W W1 := by rw [hW1, hW0]; exact ((Below.refl _ _).alloc (Nat.le_refl _) _).alloc (by simp) _
  have hcells : ∀ w', Below W1.heap.size W1 w' → ∀ k (hk : k < 14),
      w'.cell? ⟨W.heap.size + 1, k * 2, none⟩ = some (.string ⟨(tblR[k]'hk).1.toArray⟩) ∧ w'.cell? ⟨W.heap.size + 1, k * 2 + 1, none⟩ = some (.int .i64 ((tblR[k]'hk).2 : Int)) := by
    intro w' hb k hk
    have h := tcellsR_at k hk
    have hn : W1.heap[W.heap.size + 1]? = some (.cells tcellsR.toArray 39) := by
      have := heap_alloc_new W0 (.cells tcellsR.toArray 39)
      rw [hz0] at this
      rw [hW1]; exact this
    rw [hb.cell (p := ⟨W.heap.size + 1, k * 2, none⟩) (by show W.heap.size + 1 < _; omega), hb.cell (p := ⟨W.heap.size + 1, k * 2 + 1, none⟩) (by show W.heap.size + 1 < _; omega), cell_of_row _ (W.heap.size + 1) _ _ _ _ hn, cell_of_row _ (W.heap.size + 1) _ _ _ _ hn]
    simp only [List.getElem?_toArray]
    exact h
  have HC := Lib.hid hcells
  have HW0 := Lib.hid hW0
  have HW1 := Lib.hid hW1
  have e01 : (W.alloc (.cells (cells pT).toArray 5)).alloc (.cells tcellsR.toArray 39) = W1 := by rw [hW1, hW0]
  clear hcells hW0 hW1
  go_enter Try.func8, Try.ntmps8
  go_wp2
  have E01 := Lib.hid e01
  clear e01
  go_loopw [3] (fun vi wr => ∃ k : Nat, k ≤ 14 ∧ vi = .int .i64 k ∧ Below W1.heap.size W1 wr)
    (fun vi _ => (14 - intOf vi).toNat)
  case atStart => exact ⟨0, by omega, rfl, by rw [← E01.out]; exact Below.refl _ _⟩
  case round =>
    obtain ⟨k, hk, rfl, hbel⟩ := hrel
    have hz := hbel.size
    have hb0 : Below W.heap.size W wr := hb01.trans (hbel.mono (by omega))
    by_cases hk14 : k < 14
    · obtain ⟨q0, q1⟩ := HC.out wr hbel k hk14
      have hv := tblR_all (tblR[k]'hk14) (List.getElem_mem _)
      obtain ⟨⟨bs, e⟩, hbs⟩ : ∃ p, p = tblR[k]'hk14 := ⟨_, rfl⟩
      have HC2 := Lib.hid (fun w' hw => (HC.out w' hw k hk14).2)
      rw [← hbs] at q0 q1 hv HC2
      clear hbs
      dsimp only at q0 q1 hv
      obtain ⟨hv, hlb⟩ := hv
      obtain ⟨ms, hms⟩ : ∃ m, rget pT bs = (m, e) := ⟨(rget pT bs).1, by rw [← hv]⟩
      obtain ⟨c5, o5, hcv, hrd, hle⟩ := conv_str wr bs
      have P1 := Lib.hid (Get_row (wr.heap.size + 1) (some ⟨W.heap.size, 0, none⟩) (some ⟨wr.heap.size, 0, none⟩) 3 c5 pT bs (wr.drew.alloc o5) (((hT1.below (hbel.mono (by omega))).alloc (by omega) o5).more (by omega)) hrd (by rw [World.size_alloc]; exact Nat.le_refl _) hle (by decide) (by omega))
      rw [hms] at P1
      have hkI : (k : Int) < 14 := by omega
      have HMS := Lib.hid (got_len (by omega) hms)
      clear hv hms hrd
      go_wp2_with fail
      refine (P1.out).mono ?_; rintro ee w4 ⟨A4, c4, rfl, hown4, hb4⟩
      dsimp only at hown4 ⊢
      have hbel4 : Below W1.heap.size W1 w4 := (hbel.drew.alloc hz _).trans (hb4.mono (by simp; omega))
      have q2 := HC2.out w4 hbel4
      clear hcv hown4
      rcases HMS.out with ⟨rfl, h3⟩ | ⟨h2, rfl⟩
      · have h3I : (0 : Int) < (ms.length : Int) := by omega
        have h3N : 0 < ms.length := by omega
        clear h3
        go_wp2_with fail
        go_roundw
        case rel => exact ⟨k + 1, by omega, by go_num, hbel4⟩
        case measure => simp [intOf]; omega
      · have he : ((e : Int) == 0) = false := beq_eq_false_iff_ne.2 (by omega)
        clear h2
        go_wp2_with fail
        go_roundw
        case rel => exact ⟨k + 1, by omega, by go_num, hbel4⟩
        case measure => simp [intOf]; omega
    · have hk14' : k = 14 := by omega
      subst hk14'
      have K1 := fun w => put_lit [2] [⟨1, 0, []⟩] w (by decide) (by decide) (by
        intro v hv; simp at hv; subst hv; exact ⟨by decide, by unfold i64r; decide, by decide⟩) (by decide +kernel)
      rw [rk1] at K1
      have K2 := fun w => put_lit [0] [null] w (by decide) (by decide) (by
        intro v hv; simp at hv; subst hv; exact ⟨by decide, by unfold i64r; decide, by decide⟩) (by decide +kernel)
      rw [rk2] at K2
      have K3 := fun (w : World) => Put_row w.heap.size none none 0 0 [] [] w (.inl rfl) (.inl rfl) (Nat.le_refl _) (by decide) (by decide) (by simp) (by decide +kernel)
      rw [rk3] at K3
      have K4 := fun (w : World) (h : Below W1.heap.size W1 w) => Put_row w.heap.size (some ⟨W.heap.size, 0, none⟩) none 3 0 pT [] w ((hT1.below (h.mono (by omega))).more (by have := h.size; omega)) (.inl rfl) (Nat.le_refl _) (by decide) (by decide) (by simp) (by decide +kernel)
      rw [rk4] at K4
      have K5 := fun w => get_lit [4] [0] w (by decide) (by decide)
      rw [rk5] at K5
      have K6 := fun (w : World) => Get_row w.heap.size none none 0 0 [] [] w (.inl rfl) (.inl rfl) (Nat.le_refl _) (by decide) (by decide) (by decide)
      rw [rk6] at K6
      have K7 := fun (w : World) => Get_row (w.heap.size + 1) none (some ⟨w.heap.size, 0, none⟩) 0 1 [] [0] (w.alloc (.cells (cells [0]).toArray 5)) (.inl rfl) (rd_arr w _ _ _ _ rfl (by omega)) (by simp) (by decide) (by decide) (by decide)
      rw [rk7] at K7
      have K8 := fun (w : World) (A8 A9 : Option Addr) (c9 : Nat) h1 h2 => Put_row w.heap.size A8 A9 9 c9 nine (List.replicate 9 null) w h1 h2 (Nat.le_refl _) (by decide) (by decide) (by
        intro v hv; rw [List.eq_of_mem_replicate hv]; exact ⟨by decide, by unfold i64r; decide, by decide⟩) (by decide +kernel)
      rw [rk8] at K8
      have H1 := Lib.hid K1
      have H2 := Lib.hid K2
      have H3 := Lib.hid K3
      have H4 := Lib.hid K4
      have H5 := Lib.hid K5
      have H6 := Lib.hid K6
      have H7 := Lib.hid K7
      have H8 := Lib.hid K8
      clear K1 K2 K3 K4 K5 K6 K7 K8 HC
      go_wp2_with fail
      refine (H1.out wr).mono ?_; rintro e w2 ⟨A2, c2, rfl, hown2, hb2⟩
      have b2 : Below W1.heap.size W1 w2 := ((hbel.alloc hz _).alloc (by simp; omega) _).trans (hb2.mono (by simp; omega))
      have s2 := b2.size
      go_wp2_with fail
      refine (H2.out w2).mono ?_; rintro e w3 ⟨A3, c3, rfl, hown3, hb3⟩
      have b3 : Below W1.heap.size W1 w3 := ((b2.alloc s2 _).alloc (by simp; omega) _).trans (hb3.mono (by simp; omega))
      have s3 := b3.size
      go_wp2_with fail
      refine (H3.out w3).mono ?_; rintro e w4 ⟨A4, c4, rfl, hown4, hb4⟩
      have b4 : Below W1.heap.size W1 w4 := b3.trans (hb4.mono s3)
      have s4 := b4.size
      go_wp2_with fail
      refine (H4.out w4 b4).mono ?_; rintro e w5 ⟨A5, c5, rfl, hown5, hb5⟩
      have b5 : Below W1.heap.size W1 w5 := b4.trans (hb5.mono s4)
      have s5 := b5.size
      go_wp2_with fail
      refine (H5.out w5).mono ?_; rintro e w6 ⟨A6, c6, rfl, hown6, hb6⟩
      have b6 : Below W1.heap.size W1 w6 := ((b5.alloc s5 _).alloc (by simp; omega) _).trans (hb6.mono (by simp; omega))
      have s6 := b6.size
      go_wp2_with fail
      refine (H6.out w6).mono ?_; rintro e w7 ⟨A7, c7, rfl, hown7, hb7⟩
      have b7 : Below W1.heap.size W1 w7 := b6.trans (hb7.mono s6)
      have s7 := b7.size
      go_wp2_with fail
      refine (H7.out w7).mono ?_; rintro e w8 ⟨A8, c8, rfl, hown8, hb8⟩
      have b8 : Below W1.heap.size W1 w8 := (b7.alloc s7 _).trans (hb8.mono (by simp; omega))
      have s8 := b8.size
      obtain ⟨w9, hw9⟩ : ∃ w9, w9 = w8.alloc (.cells (cells nine).toArray 5) := ⟨_, rfl⟩
      have b9 : Below W1.heap.size W1 w9 := by rw [hw9]; exact b8.alloc s8 _
      have rd9 : Rd w9 (w8.heap.size + 1) (some ⟨w8.heap.size, 0, none⟩) (cells nine) := by rw [hw9]; exact rd_arr w8 _ _ _ _ rfl (by omega)
      have z9 : w9.heap.size = w8.heap.size + 1 := by rw [hw9]; simp
      obtain ⟨by_, hinfo, hby⟩ := Try.infoVal
      obtain ⟨i0, hi, y0, y1, y2⟩ := info_parts hinfo
      obtain ⟨w10, hmk, hown, hg⟩ := run_make_full (P := Try.prog) w9 w9.heap.size 23 37 i0 (.agg #[.int .u8 0, .int .i64 0, .string ByteArray.empty]) 3 Try.underlying23 hi y0 y1 .i64 .i64 9 (by rw [y2]; exact Nat.le_trans (Nat.mul_le_mul hby (Nat.le_refl 9)) (by decide)) (by unfold maxLen; omega) (Nat.le_refl _)
      have hmk2 : (Instr.makeSlice 23 (.int .i64 9) (.int .i64 9)).run Try.prog w9 = .ok (.slice (some ⟨w9.heap.size, 0, none⟩) 9 9) w10 := hmk
      have hown10 : w10.ownsRow w9.heap.size 37 3 (.slice (some ⟨w9.heap.size, 0, none⟩) 9 9) 9 (vcells (List.replicate 9 null)) := by
        have h := hown
        rwa [vcells_rep null 9 (Value.agg #[.int .u8 0, .int .i64 0, .string ByteArray.empty]).cells rfl] at h
      have hb910 : Below w9.heap.size w9 w10 := (Below.refl _ w9).grown hg (Nat.le_refl _) (by simp)
      have b10 : Below W1.heap.size W1 w10 := b9.trans (hb910.mono (by omega))
      have J8 := H8.out w10 (some ⟨w8.heap.size, 0, none⟩) (some ⟨w9.heap.size, 0, none⟩) 9 ((rd9.below (hb910.mono (by omega))).more (by have := hb910.size; omega)) (rd_own hown10)
      rw [z9] at hmk2 J8
      have HJ8 := Lib.hid J8
      have HM2 : (Instr.makeSlice 23 (.int .i64 9) (.int .i64 9)).run Try.prog (w8.alloc (.cells #[.int .u8 1, .int .u8 1, .int .u8 1, .int .u8 1, .int .u8 1, .int .u8 1, .int .u8 1, .int .u8 1, .int .u8 1] 5)) = .ok (.slice (some ⟨w8.heap.size + 1, 0, none⟩) 9 9) w10 := by
        have e9 : (Obj.cells (cells nine).toArray 5) = .cells #[.int .u8 1, .int .u8 1, .int .u8 1, .int .u8 1, .int .u8 1, .int .u8 1, .int .u8 1, .int .u8 1, .int .u8 1] 5 := rfl
        rw [← e9, ← hw9]; exact hmk2
      clear hmk hmk2 hown hg hi y0 y1 y2 hinfo hown10 J8 hw9 hown2 hown3 hown4 hown5 hown6 hown7 hown8
      go_wp2_with fail
      refine HJ8.out.mono ?_; rintro e w11 ⟨A11, c11, rfl, hown11, hb11⟩
      dsimp only at hown11 ⊢
      have b11 : Below W1.heap.size W1 w11 := b10.trans (hb11.mono b10.size)
      have hcv := conv_own hown11
      clear hown11 HM2
      dsimp only [List.length_cons, List.length_nil] at hcv ⊢
      go_wp2_with fail
      refine (puts_any w11).mono ?_; rintro e w12 ⟨rfl, hb12⟩
      have hbW : Below W.heap.size W w12 := hb01.trans ((b11.trans (hb12.mono b11.size)).mono (by omega))
      go_wp2_with fail
      go_ret
      exact ⟨rfl, hbW⟩
end Go.Proofs.Ytfnbckgpldkgmaa

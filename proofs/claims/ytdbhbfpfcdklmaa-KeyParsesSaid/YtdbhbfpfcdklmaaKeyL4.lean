/- The law KeyBack (layer 3), walked: true for every input. No condition. -/
import Derived.Test.YtdbhbfpfcdklmaaKeyL3
import Derived.Deep.DeepCutAuto
namespace Go.Proofs.Ytdbhbfpfcdklmaa
open Go.RowKit
set_option linter.unusedVariables false
set_option linter.unusedSimpArgs false

theorem kp_len : ∀ (l : List V), l.length ≤ (F l).length
  | [] => by simp
  | v :: l => by
    obtain ⟨c, r, h⟩ := kone_ne v
    have := kp_len l
    rw [F_cons, h, List.length_append, List.length_cons, List.length_cons]; omega
theorem kparse_inv {b : List UInt8} {m : List V} {e : Nat} (h : kparse b = (m, e)) : (e = 0 ∧ b = F m ∧ ∀ v ∈ m, good v ∧ v.k < 256) ∨ (m = [] ∧ (e = 20 ∨ e = 21)) := by
  rcases kp_inv _ b [] m e (Nat.le_refl _) h with ⟨h1, l, h2, h3, h4⟩ | h1
  · rw [List.nil_append] at h2
    subst h2
    exact .inl ⟨h1, h3, h4⟩
  · exact .inr h1

/-- the second half: bytes, read, laid again. -/
def BackQ (W : World) (e : Ending) (w' : World) : Prop := e = .returned (.bool true) ∧ Below W.heap.size W w'

set_option maxHeartbeats 4000000 in
set_option maxRecDepth 100000 in
theorem keyBack_walk (A : Option Addr) (c : Nat) (l : List V) (A' : Option Addr) (c' : Nat) (b : List UInt8) (W : World) (hl : Rd W W.heap.size A (vcells l)) (hlc : l.length ≤ c ∧ c ≤ maxLen) (hok : ∀ v ∈ l, vok v)
    (hb : Rd W W.heap.size A' (cells b)) (hbc : b.length ≤ c' ∧ c' ≤ maxLen) :
    Calls Try.prog 5 #[.slice A l.length c, .slice A' b.length c'] W fun e w' => e = .returned (.bool true) ∧ Below W.heap.size W w' := by
  have KA := Lib.hid (fun w => long_any W.heap.size A c l w)
  obtain ⟨la, hla⟩ : ∃ x, x = lng l := ⟨_, rfl⟩
  rw [← hla] at KA
  rcases la with _ | _
  case true =>
    clear hla
    go_enter Try.func5, Try.ntmps5
    go_wp2_with fail
    refine (KA.out W hl (Nat.le_refl _)).mono ?_; rintro e w1 ⟨rfl, hb1⟩
    go_wp2_with fail
    go_ret
    exact ⟨rfl, hb1⟩
  obtain ⟨hl30, _, hfl⟩ := lng_false hla.symm
  clear hla
  by_cases hbl : 1000 < b.length
  · have hI : (1000 : Int) < (b.length : Int) := by omega
    go_enter Try.func5, Try.ntmps5
    go_wp2_with fail
    refine (KA.out W hl (Nat.le_refl _)).mono ?_; rintro e w1 ⟨rfl, hb1⟩
    go_wp2_with fail
    go_ret
    exact ⟨rfl, hb1⟩
  have hI : (b.length : Int) ≤ 1000 := by omega
  have HO := Lib.hid (vok2 hok)
  clear hok
  have H1 := Lib.hid (fun w h hB => Append_any W.heap.size none A 0 c [] l w (.inl rfl) h hB (by rw [List.length_nil]; omega) (by omega) HO.out)
  have P2 := Lib.hid (fun w h hB => Parse_any W.heap.size A' c' b w h hbc.1 hB (by omega))
  obtain ⟨ma, hma⟩ : ∃ x, x = l.all mayB := ⟨_, rfl⟩
  have HMA := Lib.hid hma
  obtain ⟨ka, hka⟩ : ∃ x, x = kapp [] l := ⟨_, rfl⟩
  rw [← hka] at H1
  obtain ⟨xs, ea⟩ := ka
  have HKA := Lib.hid hka
  obtain ⟨kb, hkb⟩ : ∃ x, x = kparse b := ⟨_, rfl⟩
  rw [← hkb] at P2
  obtain ⟨ms, eb⟩ := kb
  have HKB := Lib.hid hkb
  clear hka hkb hma
  go_enter Try.func5, Try.ntmps5
  go_wp2_with fail
  refine (KA.out W hl (Nat.le_refl _)).mono ?_; rintro e w1 ⟨rfl, hb1⟩
  go_wp2_with fail
  refine (H1.out w1 (hl.below hb1) hb1.size).mono ?_; rintro e w3 ⟨A3, c3, rfl, hown3, hb3⟩
  dsimp only at hown3 ⊢
  have hb03 : Below W.heap.size W w3 := hb1.trans (hb3.mono hb1.size)
  go_upto_if 26 with fail
  go_cut [] (fun wx => Below W.heap.size W wx)
  case first =>
    rcases ma with _ | _
    · have h1 := HKA.out
      rw [kapp_not HMA.out.symm] at h1
      simp only [Prod.mk.injEq] at h1
      obtain ⟨rfl, rfl⟩ := h1
      go_wp2_with fail
      go_meet
      exact hb03
    · have h1 := HKA.out
      rw [kapp_may HMA.out.symm] at h1
      simp only [Prod.mk.injEq] at h1
      obtain ⟨hxs, rfl⟩ := h1
      have hgl := good_all HMA.out.symm HO.out
      have P1 := Lib.hid (Parse_any w3.heap.size A3 c3 xs w3 (rd_own hown3) (own_le hown3) (Nat.le_refl _) (by rw [hxs]; show (l.flatMap kone).length ≤ _; omega))
      have hpl : kparse xs = (l, 0) := by rw [hxs]; exact kparse_F l hgl
      rw [hpl] at P1
      clear hxs hpl hgl
      go_wp2_with fail
      refine (P1.out).mono ?_; rintro e w4 ⟨A4, c4, rfl, hown4, hb4⟩
      dsimp only at hown4 ⊢
      have hb04 : Below W.heap.size W w4 := hb03.trans (hb4.mono hb03.size)
      have S1 := Lib.hid (Same_any w4.heap.size A4 A c4 c l l w4 (rd_own hown4) ((hl.below hb04).more hb04.size) (Nat.le_refl _) (by unfold maxLen; omega))
      go_wp2_with fail
      refine (S1.out).mono ?_; rintro e w5 ⟨rfl, hb5⟩
      have hb05 : Below W.heap.size W w5 := hb04.trans (hb5.mono hb04.size)
      go_wp2_with fail
      go_meet
      exact hb05
  case rest =>
    clear hown3 hb3 hb03 H1 HKA
    rcases kparse_inv HKB.out.symm with ⟨rfl, hF, hg⟩ | ⟨rfl, h2⟩
    · have hml := kp_len ms
      rw [← hF] at hml
      have hmay : ms.all mayB = true := List.all_eq_true.2 fun v hv => (hg v hv).1.1
      have hka : kapp [] ms = (b, 0) := by rw [kapp_may hmay, hF]
      have hfl2 : (ms.flatMap kone).length = b.length := congrArg List.length hF.symm
      have A1 := fun (Ax : Option Addr) (cx : Nat) (w : World) h => Append_any w.heap.size none Ax 0 cx [] ms w (.inl rfl) h (Nat.le_refl _) (by rw [List.length_nil]; omega) (by omega) (fun v hv => ⟨(hg v hv).2, (hg v hv).1.2⟩)
      rw [hka] at A1
      have HA1 := Lib.hid A1
      clear A1 hka hmay hfl2 hF hg HKB
      go_wp2_with fail
      refine (P2.out wc (hb.below hcut) hcut.size).mono ?_; rintro e w4 ⟨A4, c4, rfl, hown4, hb4⟩
      dsimp only at hown4 ⊢
      have hb04 : Below W.heap.size W w4 := hcut.trans (hb4.mono hcut.size)
      go_wp2_with fail
      refine (HA1.out A4 c4 w4 (rd_own hown4)).mono ?_; rintro e w5 ⟨A5, c5, rfl, hown5, hb5⟩
      dsimp only at hown5 ⊢
      have hb05 : Below W.heap.size W w5 := hb04.trans (hb5.mono hb04.size)
      have CV1 := conv_own hown5
      have CV2 := conv_rd (hb.below hb05) c'
      clear hown4 hown5
      go_wp2_with fail
      refine (keys_any w5).mono ?_; rintro e w6 ⟨rfl, hb6⟩
      have hb06 : Below W.heap.size W w6 := hb05.trans (hb6.mono hb05.size)
      go_wp2_with fail
      go_ret
      exact ⟨rfl, hb06⟩
    · clear HKB
      rcases h2 with rfl | rfl
      all_goals
        go_wp2_with fail
        refine (P2.out wc (hb.below hcut) hcut.size).mono ?_; rintro e w4 ⟨A4, c4, rfl, hown4, hb4⟩
        dsimp only at hown4 ⊢
        have hb04 : Below W.heap.size W w4 := hcut.trans (hb4.mono hcut.size)
        go_wp2_with fail
        refine (keys_any w4).mono ?_; rintro e w5 ⟨rfl, hb5⟩
        have hb05 : Below W.heap.size W w5 := hb04.trans (hb5.mono hb04.size)
        go_wp2_with fail
        go_ret
        exact ⟨rfl, hb05⟩
end Go.Proofs.Ytdbhbfpfcdklmaa

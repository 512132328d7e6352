/- The walk of the law SpanTells: it answers true. No condition. -/
import Derived.Test.YtdijmfnjjcknaaaSpanR
import Derived.Test.YtdijmfnjjcknaaaSpanL3
import Derived.Deep.DeepCutAuto
namespace Go.Proofs.Ytdijmfnjjcknaaa
open Go.RowKit
set_option linter.unusedVariables false
set_option linter.unusedSimpArgs false

set_option maxHeartbeats 4000000 in
set_option maxRecDepth 100000 in
theorem spanTells_walk (t n f u o1 o2 : Int) (W : World) :
    Calls Try.prog 7 #[.int .i64 t, .int .i64 n, Sp f u, Sp o1 o2] W fun e w' => e = .returned (.bool true) ∧ Below W.heap.size W w' := by
  obtain ⟨e1, he1⟩ : ∃ x, x = wrg n [t] := ⟨_, rfl⟩
  obtain ⟨e2, he2⟩ : ∃ x, x = wrg n [f, u] := ⟨_, rfl⟩
  obtain ⟨a, ha⟩ : ∃ x, x = flr t n := ⟨_, rfl⟩
  obtain ⟨b, hb⟩ : ∃ x, x = cei t n := ⟨_, rfl⟩
  obtain ⟨c1, hc1⟩ : ∃ x, x = bkF t n := ⟨_, rfl⟩
  obtain ⟨c2, hc2⟩ : ∃ x, x = bkT t n := ⟨_, rfl⟩
  obtain ⟨x1, hx1⟩ : ∃ x, x = OutF f u n := ⟨_, rfl⟩
  obtain ⟨x2, hx2⟩ : ∃ x, x = OutT f u n := ⟨_, rfl⟩
  obtain ⟨y1, hy1⟩ : ∃ x, x = InF f u n := ⟨_, rfl⟩
  obtain ⟨y2, hy2⟩ : ∃ x, x = InT f u n := ⟨_, rfl⟩
  have C1 : ∀ (A : Option Addr) (c : Nat) (w : World) (B : Nat), Rd w B A [.int .i64 t] → Calls Try.prog 24 #[.int .i64 n, .slice A 1 c] w fun e w' => e = .returned (.int .i64 e1) ∧ w = w' := fun A c w B h => by
    rw [he1]; exact rWrong_any n [t] A c w B h (by simp)
  have C2 : ∀ (A : Option Addr) (c : Nat) (w : World) (B : Nat), Rd w B A [.int .i64 f, .int .i64 u] → Calls Try.prog 24 #[.int .i64 n, .slice A 2 c] w fun e w' => e = .returned (.int .i64 e2) ∧ w = w' := fun A c w B h => by
    rw [he2]; exact rWrong_any n [f, u] A c w B h (by simp)
  have F1 := fun w => Floor_any t n w
  have F2 := fun w => Ceil_any t n w
  have F3 := fun w => Bucket_any t n w
  have F4 := fun w => Out_any f u n w
  have F5 := fun w => In_any f u n w
  rw [← he1, ← ha] at F1
  rw [← he1, ← hb] at F2
  rw [← he1, ← hc1, ← hc2] at F3
  rw [← he2, ← hx1, ← hx2] at F4
  rw [← he2, ← hy1, ← hy2] at F5
  have D1 := Lib.hid C1
  have D2 := Lib.hid C2
  have G1 := Lib.hid F1
  have G2 := Lib.hid F2
  have G3 := Lib.hid F3
  have G4 := Lib.hid F4
  have G5 := Lib.hid F5
  have E1 := Lib.hid he1
  have E2 := Lib.hid he2
  have Ea := Lib.hid ha
  have Eb := Lib.hid hb
  have Ec1 := Lib.hid hc1
  have Ec2 := Lib.hid hc2
  have Ex1 := Lib.hid hx1
  have Ex2 := Lib.hid hx2
  have Ey1 := Lib.hid hy1
  have Ey2 := Lib.hid hy2
  clear C1 C2 F1 F2 F3 F4 F5 he1 he2 ha hb hc1 hc2 hx1 hx2 hy1 hy2
  go_enter Try.func7, Try.ntmps7
  go_wp2_with fail
  refine (D1.out _ _ _ _ (by exact rd_one _ _ _ _ _ (by simp) (Nat.lt_add_one _))).mono ?_; rintro e v1 ⟨rfl, rfl⟩
  go_wp2_with fail
  refine (G1.out _).mono ?_; rintro e w1 ⟨rfl, hb1⟩
  have z1 := hb1.size; try simp at z1
  have c1_0_0 : w1.cell? ⟨W.heap.size, 0, none⟩ = some (.int .i64 f) := cell_be (by simp [go_sem]) hb1 (by first | (simp; done) | (simp; omega))
  have c1_0_1 : w1.cell? ⟨W.heap.size, 1, none⟩ = some (.int .i64 u) := cell_be (by simp [go_sem]) hb1 (by first | (simp; done) | (simp; omega))
  have c1_1_0 : w1.cell? ⟨W.heap.size + 1, 0, none⟩ = some (.int .i64 o1) := cell_be (by simp [go_sem]) hb1 (by first | (simp; done) | (simp; omega))
  have c1_1_1 : w1.cell? ⟨W.heap.size + 1, 1, none⟩ = some (.int .i64 o2) := cell_be (by simp [go_sem]) hb1 (by first | (simp; done) | (simp; omega))
  have bel1 : Below W.heap.size W w1 := ((((Below.refl W.heap.size W).alloc (Nat.le_refl _) _).alloc (by first | exact Nat.le_refl _ | (simp; done) | (simp; omega)) _).alloc (by first | exact Nat.le_refl _ | (simp; done) | (simp; omega)) _).trans (hb1.mono (by first | exact Nat.le_refl _ | (simp; done) | (simp; omega)))
  have s1 := bel1.size
  have y1_0 : W.heap.size < w1.heap.size := by omega
  have y1_1 : W.heap.size + 1 < w1.heap.size := by omega
  go_wp2_with fail
  refine (G2.out _).mono ?_; rintro e w2 ⟨rfl, hb2⟩
  have z2 := hb2.size; try simp at z2
  have c2_0_0 : w2.cell? ⟨W.heap.size, 0, none⟩ = some (.int .i64 f) := cell_be c1_0_0 hb2 (by first | (show W.heap.size < _; omega) | (simp; done) | (simp; omega))
  have c2_0_1 : w2.cell? ⟨W.heap.size, 1, none⟩ = some (.int .i64 u) := cell_be c1_0_1 hb2 (by first | (show W.heap.size < _; omega) | (simp; done) | (simp; omega))
  have c2_1_0 : w2.cell? ⟨W.heap.size + 1, 0, none⟩ = some (.int .i64 o1) := cell_be c1_1_0 hb2 (by first | (show W.heap.size + 1 < _; omega) | (simp; done) | (simp; omega))
  have c2_1_1 : w2.cell? ⟨W.heap.size + 1, 1, none⟩ = some (.int .i64 o2) := cell_be c1_1_1 hb2 (by first | (show W.heap.size + 1 < _; omega) | (simp; done) | (simp; omega))
  have bel2 : Below W.heap.size W w2 := bel1.trans (hb2.mono (by first | exact bel1.size | (simp; done) | (simp; omega)))
  have s2 := bel2.size
  have y2_0 : W.heap.size < w2.heap.size := by omega
  have y2_1 : W.heap.size + 1 < w2.heap.size := by omega
  clear c1_0_0 c1_0_1 c1_1_0 c1_1_1 y1_0 y1_1
  go_wp2_with fail
  refine (G3.out _).mono ?_; rintro e w3 ⟨rfl, hb3⟩
  have z3 := hb3.size; try simp at z3
  have c3_0_0 : w3.cell? ⟨W.heap.size, 0, none⟩ = some (.int .i64 f) := cell_be c2_0_0 hb3 (by first | (show W.heap.size < _; omega) | (simp; done) | (simp; omega))
  have c3_0_1 : w3.cell? ⟨W.heap.size, 1, none⟩ = some (.int .i64 u) := cell_be c2_0_1 hb3 (by first | (show W.heap.size < _; omega) | (simp; done) | (simp; omega))
  have c3_1_0 : w3.cell? ⟨W.heap.size + 1, 0, none⟩ = some (.int .i64 o1) := cell_be c2_1_0 hb3 (by first | (show W.heap.size + 1 < _; omega) | (simp; done) | (simp; omega))
  have c3_1_1 : w3.cell? ⟨W.heap.size + 1, 1, none⟩ = some (.int .i64 o2) := cell_be c2_1_1 hb3 (by first | (show W.heap.size + 1 < _; omega) | (simp; done) | (simp; omega))
  have bel3 : Below W.heap.size W w3 := bel2.trans (hb3.mono (by first | exact bel2.size | (simp; done) | (simp; omega)))
  have s3 := bel3.size
  have y3_0 : W.heap.size < w3.heap.size := by omega
  have y3_1 : W.heap.size + 1 < w3.heap.size := by omega
  clear c2_0_0 c2_0_1 c2_1_0 c2_1_1 y2_0 y2_1
  obtain ⟨w4, hw4⟩ : ∃ w', w' = (w3.alloc (.cells #[.int .i64 c1, .int .i64 c2] 23)) := ⟨_, rfl⟩
  have z4 : w4.heap.size = w3.heap.size + 1 := by rw [hw4]; simp
  have c4_0_0 : w4.cell? ⟨W.heap.size, 0, none⟩ = some (.int .i64 f) := by rw [hw4]; exact (cell_al c3_0_0 (by first | (show W.heap.size < _; omega) | (simp; done) | (simp; omega)) _)
  have c4_0_1 : w4.cell? ⟨W.heap.size, 1, none⟩ = some (.int .i64 u) := by rw [hw4]; exact (cell_al c3_0_1 (by first | (show W.heap.size < _; omega) | (simp; done) | (simp; omega)) _)
  have c4_1_0 : w4.cell? ⟨W.heap.size + 1, 0, none⟩ = some (.int .i64 o1) := by rw [hw4]; exact (cell_al c3_1_0 (by first | (show W.heap.size + 1 < _; omega) | (simp; done) | (simp; omega)) _)
  have c4_1_1 : w4.cell? ⟨W.heap.size + 1, 1, none⟩ = some (.int .i64 o2) := by rw [hw4]; exact (cell_al c3_1_1 (by first | (show W.heap.size + 1 < _; omega) | (simp; done) | (simp; omega)) _)
  have c4_3_0 : w4.cell? ⟨w3.heap.size, 0, none⟩ = some (.int .i64 c1) := by rw [hw4]; simp [go_sem]
  have c4_3_1 : w4.cell? ⟨w3.heap.size, 1, none⟩ = some (.int .i64 c2) := by rw [hw4]; simp [go_sem]
  have bel4 : Below W.heap.size W w4 := by rw [hw4]; exact (bel3.alloc (by first | exact bel3.size | (simp; done) | (simp; omega)) _)
  have s4 := bel4.size
  have y4_0 : W.heap.size < w4.heap.size := by omega
  have y4_1 : W.heap.size + 1 < w4.heap.size := by omega
  have y4_3 : w3.heap.size < w4.heap.size := by omega
  clear c3_0_0 c3_0_1 c3_1_0 c3_1_1 y3_0 y3_1
  have J4 : ∀ w', Below w4.heap.size w4 w' → (w'.cell? ⟨W.heap.size, 0, none⟩ = some (.int .i64 f) ∧ w'.cell? ⟨W.heap.size, 1, none⟩ = some (.int .i64 u) ∧ w'.cell? ⟨W.heap.size + 1, 0, none⟩ = some (.int .i64 o1) ∧ w'.cell? ⟨W.heap.size + 1, 1, none⟩ = some (.int .i64 o2) ∧ w'.cell? ⟨w3.heap.size, 0, none⟩ = some (.int .i64 c1) ∧ w'.cell? ⟨w3.heap.size, 1, none⟩ = some (.int .i64 c2)) := fun w' h => ⟨cell_be c4_0_0 h (by show W.heap.size < _; omega), cell_be c4_0_1 h (by show W.heap.size < _; omega), cell_be c4_1_0 h (by show W.heap.size + 1 < _; omega), cell_be c4_1_1 h (by show W.heap.size + 1 < _; omega), cell_be c4_3_0 h (by show w3.heap.size < _; omega), cell_be c4_3_1 h (by show w3.heap.size < _; omega)⟩
  go_upto_if 56 with fail
  rw [← hw4]
  clear hw4
  go_cut [] (fun wx => Below w4.heap.size w4 wx)
  case first =>
    by_cases h : e1 = 0
    · subst h
      have hw := E1.out.symm
      obtain ⟨h3a, h3b, h4⟩ := wrg_zero hw
      have hbt : bnd t := h4 t (by simp)
      unfold bnd at hbt
      have ra : a = fl t n := by rw [Ea.out]; exact if_pos hw
      have rb : b = cl t n := by rw [Eb.out]; exact if_pos hw
      have rc1 : c1 = fl t n := by rw [Ec1.out]; exact if_pos hw
      have rc2 : c2 = fl t n + n := by rw [Ec2.out]; exact if_pos hw
      have hfl := fl_bd t n h3a
      have R1 := fun w => rFloor_any t n h3a h3b (by omega) (by omega) w
      have R2 := fun w => rCeil_any t n h3a h3b (by omega) (by omega) w
      rw [← ra] at R1 rc1 rc2 hfl
      rw [← rb] at R2
      have K1 := Lib.hid R1
      have K2 := Lib.hid R2
      subst rc1
      subst rc2
      clear R1 R2 hw ra rb h4
      obtain ⟨hfa, hfb⟩ := hfl
      obtain ⟨hta, htb⟩ := hbt
      go_wp2_with fail
      refine (K1.out _).mono ?_; rintro e v1 ⟨rfl, rfl⟩
      go_wp2_with fail
      refine (K2.out _).mono ?_; rintro e v1 ⟨rfl, rfl⟩
      go_wp2_with fail
      go_meet
      case rel => exact Below.refl _ _
    · have hw := fun e => h (E1.out.trans e)
      have ra : a = 0 := by rw [Ea.out]; exact if_neg hw
      have rb : b = 0 := by rw [Eb.out]; exact if_neg hw
      have rc1 : c1 = 0 := by rw [Ec1.out]; exact if_neg hw
      have rc2 : c2 = 0 := by rw [Ec2.out]; exact if_neg hw
      subst ra rb rc1 rc2
      clear hw
      go_wp2_with fail
      go_meet
      case rel => exact Below.refl _ _
  case rest =>
    clear G1 G2 G3 D1 E1 Ea Eb Ec1 Ec2
    obtain ⟨c0_0_0, c0_0_1, c0_1_0, c0_1_1, _, _⟩ := J4 wc hcut
    have k0 := hcut.size
    have y0_0 : W.heap.size < wc.heap.size := by omega
    have y0_1 : W.heap.size + 1 < wc.heap.size := by omega
    have B0 : Below W.heap.size W wc := bel4.trans (hcut.mono bel4.size)
    clear J4 c4_0_0 c4_0_1 c4_1_0 c4_1_1 c4_3_0 c4_3_1
    have hwc := hcut
    clear hcut
    go_wp2_with fail
    refine (D2.out _ _ _ _ (by exact rd_two _ _ _ _ _ _ (by simp) (Nat.lt_add_one _))).mono ?_; rintro e v1 ⟨rfl, rfl⟩
    go_wp2_with fail
    refine (G4.out _).mono ?_; rintro e w1 ⟨rfl, hb1⟩
    have z1 := hb1.size; try simp at z1
    have c1_0_0 : w1.cell? ⟨W.heap.size, 0, none⟩ = some (.int .i64 f) := cell_be (cell_al c0_0_0 (by first | (show W.heap.size < _; omega) | (simp; done) | (simp; omega)) _) hb1 (by first | (show W.heap.size < _; omega) | (simp; done) | (simp; omega))
    have c1_0_1 : w1.cell? ⟨W.heap.size, 1, none⟩ = some (.int .i64 u) := cell_be (cell_al c0_0_1 (by first | (show W.heap.size < _; omega) | (simp; done) | (simp; omega)) _) hb1 (by first | (show W.heap.size < _; omega) | (simp; done) | (simp; omega))
    have c1_1_0 : w1.cell? ⟨W.heap.size + 1, 0, none⟩ = some (.int .i64 o1) := cell_be (cell_al c0_1_0 (by first | (show W.heap.size + 1 < _; omega) | (simp; done) | (simp; omega)) _) hb1 (by first | (show W.heap.size + 1 < _; omega) | (simp; done) | (simp; omega))
    have c1_1_1 : w1.cell? ⟨W.heap.size + 1, 1, none⟩ = some (.int .i64 o2) := cell_be (cell_al c0_1_1 (by first | (show W.heap.size + 1 < _; omega) | (simp; done) | (simp; omega)) _) hb1 (by first | (show W.heap.size + 1 < _; omega) | (simp; done) | (simp; omega))
    have bel1 : Below wc.heap.size wc w1 := ((Below.refl wc.heap.size wc).alloc (Nat.le_refl _) _).trans (hb1.mono (by first | exact Nat.le_refl _ | (simp; done) | (simp; omega)))
    have s1 := bel1.size
    have y1_0 : W.heap.size < w1.heap.size := by omega
    have y1_1 : W.heap.size + 1 < w1.heap.size := by omega
    go_wp2_with fail
    refine (G5.out _).mono ?_; rintro e w2 ⟨rfl, hb2⟩
    have z2 := hb2.size; try simp at z2
    have c2_0_0 : w2.cell? ⟨W.heap.size, 0, none⟩ = some (.int .i64 f) := cell_be (cell_al c1_0_0 (by first | (show W.heap.size < _; omega) | (simp; done) | (simp; omega)) _) hb2 (by first | (show W.heap.size < _; omega) | (simp; done) | (simp; omega))
    have c2_0_1 : w2.cell? ⟨W.heap.size, 1, none⟩ = some (.int .i64 u) := cell_be (cell_al c1_0_1 (by first | (show W.heap.size < _; omega) | (simp; done) | (simp; omega)) _) hb2 (by first | (show W.heap.size < _; omega) | (simp; done) | (simp; omega))
    have c2_1_0 : w2.cell? ⟨W.heap.size + 1, 0, none⟩ = some (.int .i64 o1) := cell_be (cell_al c1_1_0 (by first | (show W.heap.size + 1 < _; omega) | (simp; done) | (simp; omega)) _) hb2 (by first | (show W.heap.size + 1 < _; omega) | (simp; done) | (simp; omega))
    have c2_1_1 : w2.cell? ⟨W.heap.size + 1, 1, none⟩ = some (.int .i64 o2) := cell_be (cell_al c1_1_1 (by first | (show W.heap.size + 1 < _; omega) | (simp; done) | (simp; omega)) _) hb2 (by first | (show W.heap.size + 1 < _; omega) | (simp; done) | (simp; omega))
    have c2_3_0 : w2.cell? ⟨w1.heap.size, 0, none⟩ = some (.int .i64 x1) := cell_be (by simp [go_sem]) hb2 (by first | (simp; done) | (simp; omega))
    have c2_3_1 : w2.cell? ⟨w1.heap.size, 1, none⟩ = some (.int .i64 x2) := cell_be (by simp [go_sem]) hb2 (by first | (simp; done) | (simp; omega))
    have bel2 : Below wc.heap.size wc w2 := (bel1.alloc (by first | exact bel1.size | (simp; done) | (simp; omega)) _).trans (hb2.mono (by first | exact bel1.size | (simp; done) | (simp; omega)))
    have s2 := bel2.size
    have y2_0 : W.heap.size < w2.heap.size := by omega
    have y2_1 : W.heap.size + 1 < w2.heap.size := by omega
    have y2_3 : w1.heap.size < w2.heap.size := by omega
    clear c1_0_0 c1_0_1 c1_1_0 c1_1_1 y1_0 y1_1
    obtain ⟨w3, hw3⟩ : ∃ w', w' = (w2.alloc (.cells #[.int .i64 y1, .int .i64 y2] 23)) := ⟨_, rfl⟩
    have z3 : w3.heap.size = w2.heap.size + 1 := by rw [hw3]; simp
    have c3_0_0 : w3.cell? ⟨W.heap.size, 0, none⟩ = some (.int .i64 f) := by rw [hw3]; exact (cell_al c2_0_0 (by first | (show W.heap.size < _; omega) | (simp; done) | (simp; omega)) _)
    have c3_0_1 : w3.cell? ⟨W.heap.size, 1, none⟩ = some (.int .i64 u) := by rw [hw3]; exact (cell_al c2_0_1 (by first | (show W.heap.size < _; omega) | (simp; done) | (simp; omega)) _)
    have c3_1_0 : w3.cell? ⟨W.heap.size + 1, 0, none⟩ = some (.int .i64 o1) := by rw [hw3]; exact (cell_al c2_1_0 (by first | (show W.heap.size + 1 < _; omega) | (simp; done) | (simp; omega)) _)
    have c3_1_1 : w3.cell? ⟨W.heap.size + 1, 1, none⟩ = some (.int .i64 o2) := by rw [hw3]; exact (cell_al c2_1_1 (by first | (show W.heap.size + 1 < _; omega) | (simp; done) | (simp; omega)) _)
    have c3_3_0 : w3.cell? ⟨w1.heap.size, 0, none⟩ = some (.int .i64 x1) := by rw [hw3]; exact (cell_al c2_3_0 (by first | (show w1.heap.size < _; omega) | (simp; done) | (simp; omega)) _)
    have c3_3_1 : w3.cell? ⟨w1.heap.size, 1, none⟩ = some (.int .i64 x2) := by rw [hw3]; exact (cell_al c2_3_1 (by first | (show w1.heap.size < _; omega) | (simp; done) | (simp; omega)) _)
    have c3_4_0 : w3.cell? ⟨w2.heap.size, 0, none⟩ = some (.int .i64 y1) := by rw [hw3]; simp [go_sem]
    have c3_4_1 : w3.cell? ⟨w2.heap.size, 1, none⟩ = some (.int .i64 y2) := by rw [hw3]; simp [go_sem]
    have bel3 : Below wc.heap.size wc w3 := by rw [hw3]; exact (bel2.alloc (by first | exact bel2.size | (simp; done) | (simp; omega)) _)
    have s3 := bel3.size
    have y3_0 : W.heap.size < w3.heap.size := by omega
    have y3_1 : W.heap.size + 1 < w3.heap.size := by omega
    have y3_3 : w1.heap.size < w3.heap.size := by omega
    have y3_4 : w2.heap.size < w3.heap.size := by omega
    clear c2_0_0 c2_0_1 c2_1_0 c2_1_1 c2_3_0 c2_3_1 y2_0 y2_1 y2_3
    have J3 : ∀ w', Below w3.heap.size w3 w' → (w'.cell? ⟨W.heap.size, 0, none⟩ = some (.int .i64 f) ∧ w'.cell? ⟨W.heap.size, 1, none⟩ = some (.int .i64 u) ∧ w'.cell? ⟨W.heap.size + 1, 0, none⟩ = some (.int .i64 o1) ∧ w'.cell? ⟨W.heap.size + 1, 1, none⟩ = some (.int .i64 o2) ∧ w'.cell? ⟨w1.heap.size, 0, none⟩ = some (.int .i64 x1) ∧ w'.cell? ⟨w1.heap.size, 1, none⟩ = some (.int .i64 x2) ∧ w'.cell? ⟨w2.heap.size, 0, none⟩ = some (.int .i64 y1) ∧ w'.cell? ⟨w2.heap.size, 1, none⟩ = some (.int .i64 y2)) := fun w' h => ⟨cell_be c3_0_0 h (by show W.heap.size < _; omega), cell_be c3_0_1 h (by show W.heap.size < _; omega), cell_be c3_1_0 h (by show W.heap.size + 1 < _; omega), cell_be c3_1_1 h (by show W.heap.size + 1 < _; omega), cell_be c3_3_0 h (by show w1.heap.size < _; omega), cell_be c3_3_1 h (by show w1.heap.size < _; omega), cell_be c3_4_0 h (by show w2.heap.size < _; omega), cell_be c3_4_1 h (by show w2.heap.size < _; omega)⟩
    have B3 : Below W.heap.size W w3 := B0.trans (bel3.mono B0.size)
    go_upto_if 122 with fail
    rw [← hw3]
    clear hw3
    go_cut [] (fun wx => Below w3.heap.size w3 wx)
    case first =>
      by_cases h : e2 = 0
      · subst h
        have hw := E2.out.symm
        obtain ⟨h3a, h3b, h4⟩ := wrg_zero hw
        have hbf : bnd f := h4 f (by simp)
        have hbu : bnd u := h4 u (by simp)
        have R1 := fun w => rOut_any f u n h3a h3b hbf hbu w
        have R2 := fun w => rIn_any f u n h3a h3b hbf hbu w
        rw [← Ex1.out, ← Ex2.out] at R1
        rw [← Ey1.out, ← Ey2.out] at R2
        have K1 := Lib.hid R1
        have K2 := Lib.hid R2
        clear R1 R2 hw h4 hbf hbu
        go_wp2_with fail
        refine ah_start 12 (fun w' => Below w3.heap.size w3 w') rfl (by kernel_rfl) (Below.refl _ _).drew ?_
        intro hS
        (refine mv_val 0 (v := ?_) rfl (by kernel_rfl) (by kernel_rfl) (by kernel_rfl) (fun _ _ _ h => h) (by rfl) hS ?_ ?_; rotate_left; (focus (intro w hSw; (try dsimp only at hSw); (have f1 := J3 w hSw); go_simp; first | done | with_reducible rfl)); simp only [Act.put, List.setIfInBounds_toArray, List.set_cons_zero, List.set_cons_succ])
        (refine mv_val 1 (v := ?_) rfl (by kernel_rfl) (by kernel_rfl) (by kernel_rfl) (fun _ _ _ h => h) (by rfl) hS ?_ ?_; rotate_left; (focus (intro w hSw; (try dsimp only at hSw); (have f1 := J3 w hSw); go_simp; first | done | with_reducible rfl)); simp only [Act.put, List.setIfInBounds_toArray, List.set_cons_zero, List.set_cons_succ])
        (refine mv_val 2 (v := ?_) rfl (by kernel_rfl) (by kernel_rfl) (by kernel_rfl) (fun _ _ _ h => h) (by rfl) hS ?_ ?_; rotate_left; (focus (intro w hSw; (try dsimp only at hSw); (have f1 := J3 w hSw); go_simp; first | done | with_reducible rfl)); simp only [Act.put, List.setIfInBounds_toArray, List.set_cons_zero, List.set_cons_succ])
        (refine mv_call 3 (f := ?_) (args := ?_) rfl (by kernel_rfl) (by rfl) ?_ ?_; rotate_left 2; (focus (go_simp; first | done | with_reducible rfl | (refine ⟨?_, ?_⟩ <;> with_reducible rfl))))
        refine (K1.out _).mono ?_; rintro e v1 ⟨rfl, hq⟩
        have hT : Below w3.heap.size w3 v1 := hS.trans (hq.mono hS.size)
        refine ⟨_, rfl, hT, ?_⟩
        replace hS := hT
        clear hT hq
        simp only [Act.put, List.setIfInBounds_toArray, List.set_cons_zero, List.set_cons_succ]
        (refine mv_val 4 (v := ?_) rfl (by kernel_rfl) (by kernel_rfl) (by kernel_rfl) (fun _ _ _ h => h) (by rfl) hS ?_ ?_; rotate_left; (focus (intro w hSw; (try dsimp only at hSw); (have f1 := J3 w hSw); go_simp; first | done | with_reducible rfl)); simp only [Act.put, List.setIfInBounds_toArray, List.set_cons_zero, List.set_cons_succ])
        (refine mv_val 5 (v := ?_) rfl (by kernel_rfl) (by kernel_rfl) (by kernel_rfl) (fun _ _ _ h => h) (by rfl) hS ?_ ?_; rotate_left; (focus (intro w hSw; (try dsimp only at hSw); (have f1 := J3 w hSw); go_simp; first | done | with_reducible rfl)); simp only [Act.put, List.setIfInBounds_toArray, List.set_cons_zero, List.set_cons_succ])
        (refine mv_val 6 (v := ?_) rfl (by kernel_rfl) (by kernel_rfl) (by kernel_rfl) (fun _ _ _ h => h) (by rfl) hS ?_ ?_; rotate_left; (focus (intro w hSw; (try dsimp only at hSw); (have f1 := J3 w hSw); go_simp; first | done | with_reducible rfl)); simp only [Act.put, List.setIfInBounds_toArray, List.set_cons_zero, List.set_cons_succ])
        (refine mv_val 7 (v := ?_) rfl (by kernel_rfl) (by kernel_rfl) (by kernel_rfl) (fun _ _ _ h => h) (by rfl) hS ?_ ?_; rotate_left; (focus (intro w hSw; (try dsimp only at hSw); (have f1 := J3 w hSw); go_simp; first | done | with_reducible rfl)); simp only [Act.put, List.setIfInBounds_toArray, List.set_cons_zero, List.set_cons_succ])
        (refine mv_val 8 (v := ?_) rfl (by kernel_rfl) (by kernel_rfl) (by kernel_rfl) (fun _ _ _ h => h) (by rfl) hS ?_ ?_; rotate_left; (focus (intro w hSw; (try dsimp only at hSw); (have f1 := J3 w hSw); go_simp; first | done | with_reducible rfl)); simp only [Act.put, List.setIfInBounds_toArray, List.set_cons_zero, List.set_cons_succ])
        (refine mv_call 9 (f := ?_) (args := ?_) rfl (by kernel_rfl) (by rfl) ?_ ?_; rotate_left 2; (focus (go_simp; first | done | with_reducible rfl | (refine ⟨?_, ?_⟩ <;> with_reducible rfl))))
        refine (K2.out _).mono ?_; rintro e v2 ⟨rfl, hq⟩
        have hT : Below w3.heap.size w3 v2 := hS.trans (hq.mono hS.size)
        refine ⟨_, rfl, hT, ?_⟩
        replace hS := hT
        clear hT hq
        simp only [Act.put, List.setIfInBounds_toArray, List.set_cons_zero, List.set_cons_succ]
        (refine mv_val 10 (v := ?_) rfl (by kernel_rfl) (by kernel_rfl) (by kernel_rfl) (fun _ _ _ h => h) (by rfl) hS ?_ ?_; rotate_left; (focus (intro w hSw; (try dsimp only at hSw); (have f1 := J3 w hSw); go_simp; first | done | with_reducible rfl)); simp only [Act.put, List.setIfInBounds_toArray, List.set_cons_zero, List.set_cons_succ])
        (refine mv_val 11 (v := ?_) rfl (by kernel_rfl) (by kernel_rfl) (by kernel_rfl) (fun _ _ _ h => h) (by rfl) hS ?_ ?_; rotate_left; (focus (intro w hSw; (try dsimp only at hSw); (have f1 := J3 w hSw); go_simp; first | done | with_reducible rfl)); simp only [Act.put, List.setIfInBounds_toArray, List.set_cons_zero, List.set_cons_succ])
        refine wpAnyH_done (by kernel_rfl) ?_ _
        go_wp2_with fail
        go_meet
        case rel => exact hS
      · have hw := fun (e : wrg n [f, u] = 0 ∧ f < u) => h (E2.out.trans e.1)
        have r1 : x1 = 0 := by rw [Ex1.out]; exact if_neg hw
        have r2 : x2 = 0 := by rw [Ex2.out]; exact if_neg hw
        have r3 : y1 = 0 := by rw [Ey1.out]; exact if_neg hw
        have r4 : y2 = 0 := by rw [Ey2.out]; exact if_neg hw
        subst r1 r2 r3 r4
        clear hw
        go_wp2_with fail
        go_meet
        case rel => exact Below.refl _ _
    case rest =>
      clear D2 G4 G5 Ex1 Ex2 Ey1 Ey2 E2
      have T1 := fun w => time_any t w
      have T2 := fun w => rTime_any t w
      obtain ⟨tb, htb⟩ : ∃ x, x = decide (-4611686018427387904 ≤ t ∧ t ≤ 4611686018427387903) := ⟨_, rfl⟩
      rw [← htb] at T1 T2
      have T3 := fun w => width_any n w
      have T4 := fun w => rWidth_any n w
      obtain ⟨nb, hnb⟩ : ∃ x, x = decide (1 ≤ n ∧ n ≤ 1099511627776) := ⟨_, rfl⟩
      rw [← hnb] at T3 T4
      have K1 := Lib.hid T1
      have K2 := Lib.hid T2
      have K3 := Lib.hid T3
      have K4 := Lib.hid T4
      have K5 := Lib.hid (fun w => empty_any f u w)
      have A1 := fun w => and_any f u o1 o2 w
      have A2 := fun w => rAnd_any f u o1 o2 w
      obtain ⟨g1, hg1⟩ : ∃ x, x = andF f u o1 o2 := ⟨_, rfl⟩
      obtain ⟨g2, hg2⟩ : ∃ x, x = andT f u o1 o2 := ⟨_, rfl⟩
      rw [← hg1, ← hg2] at A1 A2
      have K6 := Lib.hid A1
      have K7 := Lib.hid A2
      have K9 := Lib.hid (fun w => wakes9_any w)
      clear T1 T2 T3 T4 A1 A2 htb hnb hg1 hg2
      have hC := hcut
      clear hcut
      by_cases hft : f ≤ t
      · have K8 := Lib.hid (has_ok (f := f) (t := u) (x := t) (b := decide (t < u)) (by simp [hft]))
        go_wp2_with fail
        refine ah_start 51 (fun w' => Below w3.heap.size w3 w') rfl (by kernel_rfl) hC.drew ?_
        intro hS
        (refine mv_val 0 (v := ?_) rfl (by kernel_rfl) (by kernel_rfl) (by kernel_rfl) (fun _ _ _ h => h) (by rfl) hS ?_ ?_; rotate_left; (focus (intro w hSw; (try dsimp only at hSw); (have f1 := J3 w hSw; have f2 := hft); go_simp; first | done | with_reducible rfl)); simp only [Act.put, List.setIfInBounds_toArray, List.set_cons_zero, List.set_cons_succ])
        (refine mv_val 2 (v := ?_) rfl (by kernel_rfl) (by kernel_rfl) (by kernel_rfl) (fun _ _ _ h => h) (by rfl) hS ?_ ?_; rotate_left; (focus (intro w hSw; (try dsimp only at hSw); (have f1 := J3 w hSw; have f2 := hft); go_simp; first | done | with_reducible rfl)); simp only [Act.put, List.setIfInBounds_toArray, List.set_cons_zero, List.set_cons_succ])
        (refine mv_call 1 (f := ?_) (args := ?_) rfl (by kernel_rfl) (by rfl) ?_ ?_; rotate_left 2; (focus (go_simp; first | done | with_reducible rfl | (refine ⟨?_, ?_⟩ <;> with_reducible rfl))))
        refine (K1.out _).mono ?_; rintro e vv ⟨rfl, rfl⟩
        refine ⟨_, rfl, hS, ?_⟩
        simp only [Act.put, List.setIfInBounds_toArray, List.set_cons_zero, List.set_cons_succ]
        (refine mv_call 3 (f := ?_) (args := ?_) rfl (by kernel_rfl) (by rfl) ?_ ?_; rotate_left 2; (focus (go_simp; first | done | with_reducible rfl | (refine ⟨?_, ?_⟩ <;> with_reducible rfl))))
        refine (K2.out _).mono ?_; rintro e vv ⟨rfl, rfl⟩
        refine ⟨_, rfl, hS, ?_⟩
        simp only [Act.put, List.setIfInBounds_toArray, List.set_cons_zero, List.set_cons_succ]
        (refine mv_val 4 (v := ?_) rfl (by kernel_rfl) (by kernel_rfl) (by kernel_rfl) (fun _ _ _ h => h) (by rfl) hS ?_ ?_; rotate_left; (focus (intro w hSw; (try dsimp only at hSw); (have f1 := J3 w hSw; have f2 := hft); go_simp; first | done | with_reducible rfl)); simp only [Act.put, List.setIfInBounds_toArray, List.set_cons_zero, List.set_cons_succ])
        (refine mv_val 5 (v := ?_) rfl (by kernel_rfl) (by kernel_rfl) (by kernel_rfl) (fun _ _ _ h => h) (by rfl) hS ?_ ?_; rotate_left; (focus (intro w hSw; (try dsimp only at hSw); (have f1 := J3 w hSw; have f2 := hft); go_simp; first | done | with_reducible rfl)); simp only [Act.put, List.setIfInBounds_toArray, List.set_cons_zero, List.set_cons_succ])
        (refine mv_val 6 (v := ?_) rfl (by kernel_rfl) (by kernel_rfl) (by kernel_rfl) (fun _ _ _ h => h) (by rfl) hS ?_ ?_; rotate_left; (focus (intro w hSw; (try dsimp only at hSw); (have f1 := J3 w hSw; have f2 := hft); go_simp; first | done | with_reducible rfl)); simp only [Act.put, List.setIfInBounds_toArray, List.set_cons_zero, List.set_cons_succ])
        (refine mv_val 8 (v := ?_) rfl (by kernel_rfl) (by kernel_rfl) (by kernel_rfl) (fun _ _ _ h => h) (by rfl) hS ?_ ?_; rotate_left; (focus (intro w hSw; (try dsimp only at hSw); (have f1 := J3 w hSw; have f2 := hft); go_simp; first | done | with_reducible rfl)); simp only [Act.put, List.setIfInBounds_toArray, List.set_cons_zero, List.set_cons_succ])
        (refine mv_call 7 (f := ?_) (args := ?_) rfl (by kernel_rfl) (by rfl) ?_ ?_; rotate_left 2; (focus (go_simp; first | done | with_reducible rfl | (refine ⟨?_, ?_⟩ <;> with_reducible rfl))))
        refine (K3.out _).mono ?_; rintro e vv ⟨rfl, rfl⟩
        refine ⟨_, rfl, hS, ?_⟩
        simp only [Act.put, List.setIfInBounds_toArray, List.set_cons_zero, List.set_cons_succ]
        (refine mv_call 9 (f := ?_) (args := ?_) rfl (by kernel_rfl) (by rfl) ?_ ?_; rotate_left 2; (focus (go_simp; first | done | with_reducible rfl | (refine ⟨?_, ?_⟩ <;> with_reducible rfl))))
        refine (K4.out _).mono ?_; rintro e vv ⟨rfl, rfl⟩
        refine ⟨_, rfl, hS, ?_⟩
        simp only [Act.put, List.setIfInBounds_toArray, List.set_cons_zero, List.set_cons_succ]
        (refine mv_val 10 (v := ?_) rfl (by kernel_rfl) (by kernel_rfl) (by kernel_rfl) (fun _ _ _ h => h) (by rfl) hS ?_ ?_; rotate_left; (focus (intro w hSw; (try dsimp only at hSw); (have f1 := J3 w hSw; have f2 := hft); go_simp; first | done | with_reducible rfl)); simp only [Act.put, List.setIfInBounds_toArray, List.set_cons_zero, List.set_cons_succ])
        (refine mv_val 11 (v := ?_) rfl (by kernel_rfl) (by kernel_rfl) (by kernel_rfl) (fun _ _ _ h => h) (by rfl) hS ?_ ?_; rotate_left; (focus (intro w hSw; (try dsimp only at hSw); (have f1 := J3 w hSw; have f2 := hft); go_simp; first | done | with_reducible rfl)); simp only [Act.put, List.setIfInBounds_toArray, List.set_cons_zero, List.set_cons_succ])
        (refine mv_val 12 (v := ?_) rfl (by kernel_rfl) (by kernel_rfl) (by kernel_rfl) (fun _ _ _ h => h) (by rfl) hS ?_ ?_; rotate_left; (focus (intro w hSw; (try dsimp only at hSw); (have f1 := J3 w hSw; have f2 := hft); go_simp; first | done | with_reducible rfl)); simp only [Act.put, List.setIfInBounds_toArray, List.set_cons_zero, List.set_cons_succ])
        (refine mv_val 13 (v := ?_) rfl (by kernel_rfl) (by kernel_rfl) (by kernel_rfl) (fun _ _ _ h => h) (by rfl) hS ?_ ?_; rotate_left; (focus (intro w hSw; (try dsimp only at hSw); (have f1 := J3 w hSw; have f2 := hft); go_simp; first | done | with_reducible rfl)); simp only [Act.put, List.setIfInBounds_toArray, List.set_cons_zero, List.set_cons_succ])
        (refine mv_val 15 (v := ?_) rfl (by kernel_rfl) (by kernel_rfl) (by kernel_rfl) (fun _ _ _ h => h) (by rfl) hS ?_ ?_; rotate_left; (focus (intro w hSw; (try dsimp only at hSw); (have f1 := J3 w hSw; have f2 := hft); go_simp; first | done | with_reducible rfl)); simp only [Act.put, List.setIfInBounds_toArray, List.set_cons_zero, List.set_cons_succ])
        (refine mv_val 16 (v := ?_) rfl (by kernel_rfl) (by kernel_rfl) (by kernel_rfl) (fun _ _ _ h => h) (by rfl) hS ?_ ?_; rotate_left; (focus (intro w hSw; (try dsimp only at hSw); (have f1 := J3 w hSw; have f2 := hft); go_simp; first | done | with_reducible rfl)); simp only [Act.put, List.setIfInBounds_toArray, List.set_cons_zero, List.set_cons_succ])
        (refine mv_val 17 (v := ?_) rfl (by kernel_rfl) (by kernel_rfl) (by kernel_rfl) (fun _ _ _ h => h) (by rfl) hS ?_ ?_; rotate_left; (focus (intro w hSw; (try dsimp only at hSw); (have f1 := J3 w hSw; have f2 := hft); go_simp; first | done | with_reducible rfl)); simp only [Act.put, List.setIfInBounds_toArray, List.set_cons_zero, List.set_cons_succ])
        (refine mv_val 18 (v := ?_) rfl (by kernel_rfl) (by kernel_rfl) (by kernel_rfl) (fun _ _ _ h => h) (by rfl) hS ?_ ?_; rotate_left; (focus (intro w hSw; (try dsimp only at hSw); (have f1 := J3 w hSw; have f2 := hft); go_simp; first | done | with_reducible rfl)); simp only [Act.put, List.setIfInBounds_toArray, List.set_cons_zero, List.set_cons_succ])
        (refine mv_val 19 (v := ?_) rfl (by kernel_rfl) (by kernel_rfl) (by kernel_rfl) (fun _ _ _ h => h) (by rfl) hS ?_ ?_; rotate_left; (focus (intro w hSw; (try dsimp only at hSw); (have f1 := J3 w hSw; have f2 := hft); go_simp; first | done | with_reducible rfl)); simp only [Act.put, List.setIfInBounds_toArray, List.set_cons_zero, List.set_cons_succ])
        (refine mv_call 14 (f := ?_) (args := ?_) rfl (by kernel_rfl) (by rfl) ?_ ?_; rotate_left 2; (focus (go_simp; first | done | with_reducible rfl | (refine ⟨?_, ?_⟩ <;> with_reducible rfl))))
        refine (K5.out _).mono ?_; rintro e v1 ⟨rfl, hq⟩
        have hT : Below w3.heap.size w3 v1 := hS.trans (hq.mono hS.size)
        refine ⟨_, rfl, hT, ?_⟩
        replace hS := hT
        clear hT hq
        simp only [Act.put, List.setIfInBounds_toArray, List.set_cons_zero, List.set_cons_succ]
        (refine mv_val 20 (v := ?_) rfl (by kernel_rfl) (by kernel_rfl) (by kernel_rfl) (fun _ _ _ h => h) (by rfl) hS ?_ ?_; rotate_left; (focus (intro w hSw; (try dsimp only at hSw); (have f1 := J3 w hSw; have f2 := hft); go_simp; first | done | with_reducible rfl)); simp only [Act.put, List.setIfInBounds_toArray, List.set_cons_zero, List.set_cons_succ])
        (refine mv_val 21 (v := ?_) rfl (by kernel_rfl) (by kernel_rfl) (by kernel_rfl) (fun _ _ _ h => h) (by rfl) hS ?_ ?_; rotate_left; (focus (intro w hSw; (try dsimp only at hSw); (have f1 := J3 w hSw; have f2 := hft); go_simp; first | done | with_reducible rfl)); simp only [Act.put, List.setIfInBounds_toArray, List.set_cons_zero, List.set_cons_succ])
        (refine mv_val 22 (v := ?_) rfl (by kernel_rfl) (by kernel_rfl) (by kernel_rfl) (fun _ _ _ h => h) (by rfl) hS ?_ ?_; rotate_left; (focus (intro w hSw; (try dsimp only at hSw); (have f1 := J3 w hSw; have f2 := hft); go_simp; first | done | with_reducible rfl)); simp only [Act.put, List.setIfInBounds_toArray, List.set_cons_zero, List.set_cons_succ])
        (refine mv_val 23 (v := ?_) rfl (by kernel_rfl) (by kernel_rfl) (by kernel_rfl) (fun _ _ _ h => h) (by rfl) hS ?_ ?_; rotate_left; (focus (intro w hSw; (try dsimp only at hSw); (have f1 := J3 w hSw; have f2 := hft); go_simp; first | done | with_reducible rfl)); simp only [Act.put, List.setIfInBounds_toArray, List.set_cons_zero, List.set_cons_succ])
        (refine mv_val 24 (v := ?_) rfl (by kernel_rfl) (by kernel_rfl) (by kernel_rfl) (fun _ _ _ h => h) (by rfl) hS ?_ ?_; rotate_left; (focus (intro w hSw; (try dsimp only at hSw); (have f1 := J3 w hSw; have f2 := hft); go_simp; first | done | with_reducible rfl)); simp only [Act.put, List.setIfInBounds_toArray, List.set_cons_zero, List.set_cons_succ])
        (refine mv_val 26 (v := ?_) rfl (by kernel_rfl) (by kernel_rfl) (by kernel_rfl) (fun _ _ _ h => h) (by rfl) hS ?_ ?_; rotate_left; (focus (intro w hSw; (try dsimp only at hSw); (have f1 := J3 w hSw; have f2 := hft); go_simp; first | done | with_reducible rfl)); simp only [Act.put, List.setIfInBounds_toArray, List.set_cons_zero, List.set_cons_succ])
        (refine mv_val 27 (v := ?_) rfl (by kernel_rfl) (by kernel_rfl) (by kernel_rfl) (fun _ _ _ h => h) (by rfl) hS ?_ ?_; rotate_left; (focus (intro w hSw; (try dsimp only at hSw); (have f1 := J3 w hSw; have f2 := hft); go_simp; first | done | with_reducible rfl)); simp only [Act.put, List.setIfInBounds_toArray, List.set_cons_zero, List.set_cons_succ])
        (refine mv_call 25 (f := ?_) (args := ?_) rfl (by kernel_rfl) (by rfl) ?_ ?_; rotate_left 2; (focus (go_simp; first | done | with_reducible rfl | (refine ⟨?_, ?_⟩ <;> with_reducible rfl))))
        refine (K6.out _).mono ?_; rintro e v2 ⟨rfl, hq⟩
        have hT : Below w3.heap.size w3 v2 := hS.trans (hq.mono hS.size)
        refine ⟨_, rfl, hT, ?_⟩
        replace hS := hT
        clear hT hq
        simp only [Act.put, List.setIfInBounds_toArray, List.set_cons_zero, List.set_cons_succ]
        (refine mv_call 28 (f := ?_) (args := ?_) rfl (by kernel_rfl) (by rfl) ?_ ?_; rotate_left 2; (focus (go_simp; first | done | with_reducible rfl | (refine ⟨?_, ?_⟩ <;> with_reducible rfl))))
        refine (K7.out _).mono ?_; rintro e v3 ⟨rfl, hq⟩
        have hT : Below w3.heap.size w3 v3 := hS.trans (hq.mono hS.size)
        refine ⟨_, rfl, hT, ?_⟩
        replace hS := hT
        clear hT hq
        simp only [Act.put, List.setIfInBounds_toArray, List.set_cons_zero, List.set_cons_succ]
        (refine mv_val 29 (v := ?_) rfl (by kernel_rfl) (by kernel_rfl) (by kernel_rfl) (fun _ _ _ h => h) (by rfl) hS ?_ ?_; rotate_left; (focus (intro w hSw; (try dsimp only at hSw); (have f1 := J3 w hSw; have f2 := hft); go_simp; first | done | with_reducible rfl)); simp only [Act.put, List.setIfInBounds_toArray, List.set_cons_zero, List.set_cons_succ])
        (refine mv_val 30 (v := ?_) rfl (by kernel_rfl) (by kernel_rfl) (by kernel_rfl) (fun _ _ _ h => h) (by rfl) hS ?_ ?_; rotate_left; (focus (intro w hSw; (try dsimp only at hSw); (have f1 := J3 w hSw; have f2 := hft); go_simp; first | done | with_reducible rfl)); simp only [Act.put, List.setIfInBounds_toArray, List.set_cons_zero, List.set_cons_succ])
        (refine mv_val 31 (v := ?_) rfl (by kernel_rfl) (by kernel_rfl) (by kernel_rfl) (fun _ _ _ h => h) (by rfl) hS ?_ ?_; rotate_left; (focus (intro w hSw; (try dsimp only at hSw); (have f1 := J3 w hSw; have f2 := hft); go_simp; first | done | with_reducible rfl)); simp only [Act.put, List.setIfInBounds_toArray, List.set_cons_zero, List.set_cons_succ])
        (refine mv_val 32 (v := ?_) rfl (by kernel_rfl) (by kernel_rfl) (by kernel_rfl) (fun _ _ _ h => h) (by rfl) hS ?_ ?_; rotate_left; (focus (intro w hSw; (try dsimp only at hSw); (have f1 := J3 w hSw; have f2 := hft); go_simp; first | done | with_reducible rfl)); simp only [Act.put, List.setIfInBounds_toArray, List.set_cons_zero, List.set_cons_succ])
        (refine mv_val 33 (v := ?_) rfl (by kernel_rfl) (by kernel_rfl) (by kernel_rfl) (fun _ _ _ h => h) (by rfl) hS ?_ ?_; rotate_left; (focus (intro w hSw; (try dsimp only at hSw); (have f1 := J3 w hSw; have f2 := hft); go_simp; first | done | with_reducible rfl)); simp only [Act.put, List.setIfInBounds_toArray, List.set_cons_zero, List.set_cons_succ])
        (refine mv_val 35 (v := ?_) rfl (by kernel_rfl) (by kernel_rfl) (by kernel_rfl) (fun _ _ _ h => h) (by rfl) hS ?_ ?_; rotate_left; (focus (intro w hSw; (try dsimp only at hSw); (have f1 := J3 w hSw; have f2 := hft); go_simp; first | done | with_reducible rfl)); simp only [Act.put, List.setIfInBounds_toArray, List.set_cons_zero, List.set_cons_succ])
        (refine mv_val 36 (v := ?_) rfl (by kernel_rfl) (by kernel_rfl) (by kernel_rfl) (fun _ _ _ h => h) (by rfl) hS ?_ ?_; rotate_left; (focus (intro w hSw; (try dsimp only at hSw); (have f1 := J3 w hSw; have f2 := hft); go_simp; first | done | with_reducible rfl)); simp only [Act.put, List.setIfInBounds_toArray, List.set_cons_zero, List.set_cons_succ])
        (refine mv_val 37 (v := ?_) rfl (by kernel_rfl) (by kernel_rfl) (by kernel_rfl) (fun _ _ _ h => h) (by rfl) hS ?_ ?_; rotate_left; (focus (intro w hSw; (try dsimp only at hSw); (have f1 := J3 w hSw; have f2 := hft); go_simp; first | done | with_reducible rfl)); simp only [Act.put, List.setIfInBounds_toArray, List.set_cons_zero, List.set_cons_succ])
        (refine mv_val 38 (v := ?_) rfl (by kernel_rfl) (by kernel_rfl) (by kernel_rfl) (fun _ _ _ h => h) (by rfl) hS ?_ ?_; rotate_left; (focus (intro w hSw; (try dsimp only at hSw); (have f1 := J3 w hSw; have f2 := hft); go_simp; first | done | with_reducible rfl)); simp only [Act.put, List.setIfInBounds_toArray, List.set_cons_zero, List.set_cons_succ])
        (refine mv_call 34 (f := ?_) (args := ?_) rfl (by kernel_rfl) (by rfl) ?_ ?_; rotate_left 2; (focus (go_simp; first | done | with_reducible rfl | (refine ⟨?_, ?_⟩ <;> with_reducible rfl))))
        refine (K8.out _).mono ?_; rintro e v4 ⟨rfl, hq⟩
        have hT : Below w3.heap.size w3 v4 := hS.trans (hq.mono hS.size)
        refine ⟨_, rfl, hT, ?_⟩
        replace hS := hT
        clear hT hq
        simp only [Act.put, List.setIfInBounds_toArray, List.set_cons_zero, List.set_cons_succ]
        (refine mv_val 39 (v := ?_) rfl (by kernel_rfl) (by kernel_rfl) (by kernel_rfl) (fun _ _ _ h => h) (by rfl) hS ?_ ?_; rotate_left; (focus (intro w hSw; (try dsimp only at hSw); (have f1 := J3 w hSw; have f2 := hft); go_simp; first | done | with_reducible rfl)); simp only [Act.put, List.setIfInBounds_toArray, List.set_cons_zero, List.set_cons_succ])
        (refine mv_val 40 (v := ?_) rfl (by kernel_rfl) (by kernel_rfl) (by kernel_rfl) (fun _ _ _ h => h) (by rfl) hS ?_ ?_; rotate_left; (focus (intro w hSw; (try dsimp only at hSw); (have f1 := J3 w hSw; have f2 := hft); go_simp; first | done | with_reducible rfl)); simp only [Act.put, List.setIfInBounds_toArray, List.set_cons_zero, List.set_cons_succ])
        (refine mv_val 41 (v := ?_) rfl (by kernel_rfl) (by kernel_rfl) (by kernel_rfl) (fun _ _ _ h => h) (by rfl) hS ?_ ?_; rotate_left; (focus (intro w hSw; (try dsimp only at hSw); (have f1 := J3 w hSw; have f2 := hft); go_simp; first | done | with_reducible rfl)); simp only [Act.put, List.setIfInBounds_toArray, List.set_cons_zero, List.set_cons_succ])
        (refine mv_val 42 (v := ?_) rfl (by kernel_rfl) (by kernel_rfl) (by kernel_rfl) (fun _ _ _ h => h) (by rfl) hS ?_ ?_; rotate_left; (focus (intro w hSw; (try dsimp only at hSw); (have f1 := J3 w hSw; have f2 := hft); go_simp; first | done | with_reducible rfl)); simp only [Act.put, List.setIfInBounds_toArray, List.set_cons_zero, List.set_cons_succ])
        (refine mv_val 43 (v := ?_) rfl (by kernel_rfl) (by kernel_rfl) (by kernel_rfl) (fun _ _ _ h => h) (by rfl) hS ?_ ?_; rotate_left; (focus (intro w hSw; (try dsimp only at hSw); (have f1 := J3 w hSw; have f2 := hft); go_simp; first | done | with_reducible rfl)); simp only [Act.put, List.setIfInBounds_toArray, List.set_cons_zero, List.set_cons_succ])
        (refine mv_val 44 (v := ?_) rfl (by kernel_rfl) (by kernel_rfl) (by kernel_rfl) (fun _ _ _ h => h) (by rfl) hS ?_ ?_; rotate_left; (focus (intro w hSw; (try dsimp only at hSw); (have f1 := J3 w hSw; have f2 := hft); go_simp; first | done | with_reducible rfl)); simp only [Act.put, List.setIfInBounds_toArray, List.set_cons_zero, List.set_cons_succ])
        (refine mv_val 45 (v := ?_) rfl (by kernel_rfl) (by kernel_rfl) (by kernel_rfl) (fun _ _ _ h => h) (by rfl) hS ?_ ?_; rotate_left; (focus (intro w hSw; (try dsimp only at hSw); (have f1 := J3 w hSw; have f2 := hft); go_simp; first | done | with_reducible rfl)); simp only [Act.put, List.setIfInBounds_toArray, List.set_cons_zero, List.set_cons_succ])
        (refine mv_val 46 (v := ?_) rfl (by kernel_rfl) (by kernel_rfl) (by kernel_rfl) (fun _ _ _ h => h) (by rfl) hS ?_ ?_; rotate_left; (focus (intro w hSw; (try dsimp only at hSw); (have f1 := J3 w hSw; have f2 := hft); go_simp; first | done | with_reducible rfl)); simp only [Act.put, List.setIfInBounds_toArray, List.set_cons_zero, List.set_cons_succ])
        (refine mv_val 47 (v := ?_) rfl (by kernel_rfl) (by kernel_rfl) (by kernel_rfl) (fun _ _ _ h => h) (by rfl) hS ?_ ?_; rotate_left; (focus (intro w hSw; (try dsimp only at hSw); (have f1 := J3 w hSw; have f2 := hft); go_simp; first | done | with_reducible rfl)); simp only [Act.put, List.setIfInBounds_toArray, List.set_cons_zero, List.set_cons_succ])
        (refine mv_call 48 (f := ?_) (args := ?_) rfl (by kernel_rfl) (by rfl) ?_ ?_; rotate_left 2; (focus (go_simp; first | done | with_reducible rfl | (refine ⟨?_, ?_⟩ <;> with_reducible rfl))))
        refine (K9.out _).mono ?_; rintro e v5 ⟨rfl, hq⟩
        have hT : Below w3.heap.size w3 v5 := hS.trans (hq.mono hS.size)
        refine ⟨_, rfl, hT, ?_⟩
        replace hS := hT
        clear hT hq
        simp only [Act.put, List.setIfInBounds_toArray, List.set_cons_zero, List.set_cons_succ]
        (refine mv_val 49 (v := ?_) rfl (by kernel_rfl) (by kernel_rfl) (by kernel_rfl) (fun _ _ _ h => h) (by rfl) hS ?_ ?_; rotate_left; (focus (intro w hSw; (try dsimp only at hSw); (have f1 := J3 w hSw; have f2 := hft); go_simp; first | done | with_reducible rfl)); simp only [Act.put, List.setIfInBounds_toArray, List.set_cons_zero, List.set_cons_succ])
        (refine mv_val 50 (v := ?_) rfl (by kernel_rfl) (by kernel_rfl) (by kernel_rfl) (fun _ _ _ h => h) (by rfl) hS ?_ ?_; rotate_left; (focus (intro w hSw; (try dsimp only at hSw); (have f1 := J3 w hSw; have f2 := hft); go_simp; first | done | with_reducible rfl)); simp only [Act.put, List.setIfInBounds_toArray, List.set_cons_zero, List.set_cons_succ])
        refine wpAnyH_done (by kernel_rfl) ?_ _
        go_wp2_with fail
        go_ret
        exact ⟨rfl, B3.trans (hS.mono B3.size)⟩
      · have K8 := Lib.hid (has_ok (f := f) (t := u) (x := t) (b := false) (by simp; omega))
        have HD := Lib.hid (decide_eq_false hft)
        go_wp2_with fail
        refine ah_start 51 (fun w' => Below w3.heap.size w3 w') rfl (by kernel_rfl) hC.drew ?_
        intro hS
        (refine mv_val 0 (v := ?_) rfl (by kernel_rfl) (by kernel_rfl) (by kernel_rfl) (fun _ _ _ h => h) (by rfl) hS ?_ ?_; rotate_left; (focus (intro w hSw; (try dsimp only at hSw); (have f1 := J3 w hSw; have f2 := HD.out); go_simp; first | done | with_reducible rfl)); simp only [Act.put, List.setIfInBounds_toArray, List.set_cons_zero, List.set_cons_succ])
        (refine mv_val 2 (v := ?_) rfl (by kernel_rfl) (by kernel_rfl) (by kernel_rfl) (fun _ _ _ h => h) (by rfl) hS ?_ ?_; rotate_left; (focus (intro w hSw; (try dsimp only at hSw); (have f1 := J3 w hSw; have f2 := HD.out); go_simp; first | done | with_reducible rfl)); simp only [Act.put, List.setIfInBounds_toArray, List.set_cons_zero, List.set_cons_succ])
        (refine mv_call 1 (f := ?_) (args := ?_) rfl (by kernel_rfl) (by rfl) ?_ ?_; rotate_left 2; (focus (go_simp; first | done | with_reducible rfl | (refine ⟨?_, ?_⟩ <;> with_reducible rfl))))
        refine (K1.out _).mono ?_; rintro e vv ⟨rfl, rfl⟩
        refine ⟨_, rfl, hS, ?_⟩
        simp only [Act.put, List.setIfInBounds_toArray, List.set_cons_zero, List.set_cons_succ]
        (refine mv_call 3 (f := ?_) (args := ?_) rfl (by kernel_rfl) (by rfl) ?_ ?_; rotate_left 2; (focus (go_simp; first | done | with_reducible rfl | (refine ⟨?_, ?_⟩ <;> with_reducible rfl))))
        refine (K2.out _).mono ?_; rintro e vv ⟨rfl, rfl⟩
        refine ⟨_, rfl, hS, ?_⟩
        simp only [Act.put, List.setIfInBounds_toArray, List.set_cons_zero, List.set_cons_succ]
        (refine mv_val 4 (v := ?_) rfl (by kernel_rfl) (by kernel_rfl) (by kernel_rfl) (fun _ _ _ h => h) (by rfl) hS ?_ ?_; rotate_left; (focus (intro w hSw; (try dsimp only at hSw); (have f1 := J3 w hSw; have f2 := HD.out); go_simp; first | done | with_reducible rfl)); simp only [Act.put, List.setIfInBounds_toArray, List.set_cons_zero, List.set_cons_succ])
        (refine mv_val 5 (v := ?_) rfl (by kernel_rfl) (by kernel_rfl) (by kernel_rfl) (fun _ _ _ h => h) (by rfl) hS ?_ ?_; rotate_left; (focus (intro w hSw; (try dsimp only at hSw); (have f1 := J3 w hSw; have f2 := HD.out); go_simp; first | done | with_reducible rfl)); simp only [Act.put, List.setIfInBounds_toArray, List.set_cons_zero, List.set_cons_succ])
        (refine mv_val 6 (v := ?_) rfl (by kernel_rfl) (by kernel_rfl) (by kernel_rfl) (fun _ _ _ h => h) (by rfl) hS ?_ ?_; rotate_left; (focus (intro w hSw; (try dsimp only at hSw); (have f1 := J3 w hSw; have f2 := HD.out); go_simp; first | done | with_reducible rfl)); simp only [Act.put, List.setIfInBounds_toArray, List.set_cons_zero, List.set_cons_succ])
        (refine mv_val 8 (v := ?_) rfl (by kernel_rfl) (by kernel_rfl) (by kernel_rfl) (fun _ _ _ h => h) (by rfl) hS ?_ ?_; rotate_left; (focus (intro w hSw; (try dsimp only at hSw); (have f1 := J3 w hSw; have f2 := HD.out); go_simp; first | done | with_reducible rfl)); simp only [Act.put, List.setIfInBounds_toArray, List.set_cons_zero, List.set_cons_succ])
        (refine mv_call 7 (f := ?_) (args := ?_) rfl (by kernel_rfl) (by rfl) ?_ ?_; rotate_left 2; (focus (go_simp; first | done | with_reducible rfl | (refine ⟨?_, ?_⟩ <;> with_reducible rfl))))
        refine (K3.out _).mono ?_; rintro e vv ⟨rfl, rfl⟩
        refine ⟨_, rfl, hS, ?_⟩
        simp only [Act.put, List.setIfInBounds_toArray, List.set_cons_zero, List.set_cons_succ]
        (refine mv_call 9 (f := ?_) (args := ?_) rfl (by kernel_rfl) (by rfl) ?_ ?_; rotate_left 2; (focus (go_simp; first | done | with_reducible rfl | (refine ⟨?_, ?_⟩ <;> with_reducible rfl))))
        refine (K4.out _).mono ?_; rintro e vv ⟨rfl, rfl⟩
        refine ⟨_, rfl, hS, ?_⟩
        simp only [Act.put, List.setIfInBounds_toArray, List.set_cons_zero, List.set_cons_succ]
        (refine mv_val 10 (v := ?_) rfl (by kernel_rfl) (by kernel_rfl) (by kernel_rfl) (fun _ _ _ h => h) (by rfl) hS ?_ ?_; rotate_left; (focus (intro w hSw; (try dsimp only at hSw); (have f1 := J3 w hSw; have f2 := HD.out); go_simp; first | done | with_reducible rfl)); simp only [Act.put, List.setIfInBounds_toArray, List.set_cons_zero, List.set_cons_succ])
        (refine mv_val 11 (v := ?_) rfl (by kernel_rfl) (by kernel_rfl) (by kernel_rfl) (fun _ _ _ h => h) (by rfl) hS ?_ ?_; rotate_left; (focus (intro w hSw; (try dsimp only at hSw); (have f1 := J3 w hSw; have f2 := HD.out); go_simp; first | done | with_reducible rfl)); simp only [Act.put, List.setIfInBounds_toArray, List.set_cons_zero, List.set_cons_succ])
        (refine mv_val 12 (v := ?_) rfl (by kernel_rfl) (by kernel_rfl) (by kernel_rfl) (fun _ _ _ h => h) (by rfl) hS ?_ ?_; rotate_left; (focus (intro w hSw; (try dsimp only at hSw); (have f1 := J3 w hSw; have f2 := HD.out); go_simp; first | done | with_reducible rfl)); simp only [Act.put, List.setIfInBounds_toArray, List.set_cons_zero, List.set_cons_succ])
        (refine mv_val 13 (v := ?_) rfl (by kernel_rfl) (by kernel_rfl) (by kernel_rfl) (fun _ _ _ h => h) (by rfl) hS ?_ ?_; rotate_left; (focus (intro w hSw; (try dsimp only at hSw); (have f1 := J3 w hSw; have f2 := HD.out); go_simp; first | done | with_reducible rfl)); simp only [Act.put, List.setIfInBounds_toArray, List.set_cons_zero, List.set_cons_succ])
        (refine mv_val 15 (v := ?_) rfl (by kernel_rfl) (by kernel_rfl) (by kernel_rfl) (fun _ _ _ h => h) (by rfl) hS ?_ ?_; rotate_left; (focus (intro w hSw; (try dsimp only at hSw); (have f1 := J3 w hSw; have f2 := HD.out); go_simp; first | done | with_reducible rfl)); simp only [Act.put, List.setIfInBounds_toArray, List.set_cons_zero, List.set_cons_succ])
        (refine mv_val 16 (v := ?_) rfl (by kernel_rfl) (by kernel_rfl) (by kernel_rfl) (fun _ _ _ h => h) (by rfl) hS ?_ ?_; rotate_left; (focus (intro w hSw; (try dsimp only at hSw); (have f1 := J3 w hSw; have f2 := HD.out); go_simp; first | done | with_reducible rfl)); simp only [Act.put, List.setIfInBounds_toArray, List.set_cons_zero, List.set_cons_succ])
        (refine mv_val 17 (v := ?_) rfl (by kernel_rfl) (by kernel_rfl) (by kernel_rfl) (fun _ _ _ h => h) (by rfl) hS ?_ ?_; rotate_left; (focus (intro w hSw; (try dsimp only at hSw); (have f1 := J3 w hSw; have f2 := HD.out); go_simp; first | done | with_reducible rfl)); simp only [Act.put, List.setIfInBounds_toArray, List.set_cons_zero, List.set_cons_succ])
        (refine mv_val 18 (v := ?_) rfl (by kernel_rfl) (by kernel_rfl) (by kernel_rfl) (fun _ _ _ h => h) (by rfl) hS ?_ ?_; rotate_left; (focus (intro w hSw; (try dsimp only at hSw); (have f1 := J3 w hSw; have f2 := HD.out); go_simp; first | done | with_reducible rfl)); simp only [Act.put, List.setIfInBounds_toArray, List.set_cons_zero, List.set_cons_succ])
        (refine mv_val 19 (v := ?_) rfl (by kernel_rfl) (by kernel_rfl) (by kernel_rfl) (fun _ _ _ h => h) (by rfl) hS ?_ ?_; rotate_left; (focus (intro w hSw; (try dsimp only at hSw); (have f1 := J3 w hSw; have f2 := HD.out); go_simp; first | done | with_reducible rfl)); simp only [Act.put, List.setIfInBounds_toArray, List.set_cons_zero, List.set_cons_succ])
        (refine mv_call 14 (f := ?_) (args := ?_) rfl (by kernel_rfl) (by rfl) ?_ ?_; rotate_left 2; (focus (go_simp; first | done | with_reducible rfl | (refine ⟨?_, ?_⟩ <;> with_reducible rfl))))
        refine (K5.out _).mono ?_; rintro e v1 ⟨rfl, hq⟩
        have hT : Below w3.heap.size w3 v1 := hS.trans (hq.mono hS.size)
        refine ⟨_, rfl, hT, ?_⟩
        replace hS := hT
        clear hT hq
        simp only [Act.put, List.setIfInBounds_toArray, List.set_cons_zero, List.set_cons_succ]
        (refine mv_val 20 (v := ?_) rfl (by kernel_rfl) (by kernel_rfl) (by kernel_rfl) (fun _ _ _ h => h) (by rfl) hS ?_ ?_; rotate_left; (focus (intro w hSw; (try dsimp only at hSw); (have f1 := J3 w hSw; have f2 := HD.out); go_simp; first | done | with_reducible rfl)); simp only [Act.put, List.setIfInBounds_toArray, List.set_cons_zero, List.set_cons_succ])
        (refine mv_val 21 (v := ?_) rfl (by kernel_rfl) (by kernel_rfl) (by kernel_rfl) (fun _ _ _ h => h) (by rfl) hS ?_ ?_; rotate_left; (focus (intro w hSw; (try dsimp only at hSw); (have f1 := J3 w hSw; have f2 := HD.out); go_simp; first | done | with_reducible rfl)); simp only [Act.put, List.setIfInBounds_toArray, List.set_cons_zero, List.set_cons_succ])
        (refine mv_val 22 (v := ?_) rfl (by kernel_rfl) (by kernel_rfl) (by kernel_rfl) (fun _ _ _ h => h) (by rfl) hS ?_ ?_; rotate_left; (focus (intro w hSw; (try dsimp only at hSw); (have f1 := J3 w hSw; have f2 := HD.out); go_simp; first | done | with_reducible rfl)); simp only [Act.put, List.setIfInBounds_toArray, List.set_cons_zero, List.set_cons_succ])
        (refine mv_val 23 (v := ?_) rfl (by kernel_rfl) (by kernel_rfl) (by kernel_rfl) (fun _ _ _ h => h) (by rfl) hS ?_ ?_; rotate_left; (focus (intro w hSw; (try dsimp only at hSw); (have f1 := J3 w hSw; have f2 := HD.out); go_simp; first | done | with_reducible rfl)); simp only [Act.put, List.setIfInBounds_toArray, List.set_cons_zero, List.set_cons_succ])
        (refine mv_val 24 (v := ?_) rfl (by kernel_rfl) (by kernel_rfl) (by kernel_rfl) (fun _ _ _ h => h) (by rfl) hS ?_ ?_; rotate_left; (focus (intro w hSw; (try dsimp only at hSw); (have f1 := J3 w hSw; have f2 := HD.out); go_simp; first | done | with_reducible rfl)); simp only [Act.put, List.setIfInBounds_toArray, List.set_cons_zero, List.set_cons_succ])
        (refine mv_val 26 (v := ?_) rfl (by kernel_rfl) (by kernel_rfl) (by kernel_rfl) (fun _ _ _ h => h) (by rfl) hS ?_ ?_; rotate_left; (focus (intro w hSw; (try dsimp only at hSw); (have f1 := J3 w hSw; have f2 := HD.out); go_simp; first | done | with_reducible rfl)); simp only [Act.put, List.setIfInBounds_toArray, List.set_cons_zero, List.set_cons_succ])
        (refine mv_val 27 (v := ?_) rfl (by kernel_rfl) (by kernel_rfl) (by kernel_rfl) (fun _ _ _ h => h) (by rfl) hS ?_ ?_; rotate_left; (focus (intro w hSw; (try dsimp only at hSw); (have f1 := J3 w hSw; have f2 := HD.out); go_simp; first | done | with_reducible rfl)); simp only [Act.put, List.setIfInBounds_toArray, List.set_cons_zero, List.set_cons_succ])
        (refine mv_call 25 (f := ?_) (args := ?_) rfl (by kernel_rfl) (by rfl) ?_ ?_; rotate_left 2; (focus (go_simp; first | done | with_reducible rfl | (refine ⟨?_, ?_⟩ <;> with_reducible rfl))))
        refine (K6.out _).mono ?_; rintro e v2 ⟨rfl, hq⟩
        have hT : Below w3.heap.size w3 v2 := hS.trans (hq.mono hS.size)
        refine ⟨_, rfl, hT, ?_⟩
        replace hS := hT
        clear hT hq
        simp only [Act.put, List.setIfInBounds_toArray, List.set_cons_zero, List.set_cons_succ]
        (refine mv_call 28 (f := ?_) (args := ?_) rfl (by kernel_rfl) (by rfl) ?_ ?_; rotate_left 2; (focus (go_simp; first | done | with_reducible rfl | (refine ⟨?_, ?_⟩ <;> with_reducible rfl))))
        refine (K7.out _).mono ?_; rintro e v3 ⟨rfl, hq⟩
        have hT : Below w3.heap.size w3 v3 := hS.trans (hq.mono hS.size)
        refine ⟨_, rfl, hT, ?_⟩
        replace hS := hT
        clear hT hq
        simp only [Act.put, List.setIfInBounds_toArray, List.set_cons_zero, List.set_cons_succ]
        (refine mv_val 29 (v := ?_) rfl (by kernel_rfl) (by kernel_rfl) (by kernel_rfl) (fun _ _ _ h => h) (by rfl) hS ?_ ?_; rotate_left; (focus (intro w hSw; (try dsimp only at hSw); (have f1 := J3 w hSw; have f2 := HD.out); go_simp; first | done | with_reducible rfl)); simp only [Act.put, List.setIfInBounds_toArray, List.set_cons_zero, List.set_cons_succ])
        (refine mv_val 30 (v := ?_) rfl (by kernel_rfl) (by kernel_rfl) (by kernel_rfl) (fun _ _ _ h => h) (by rfl) hS ?_ ?_; rotate_left; (focus (intro w hSw; (try dsimp only at hSw); (have f1 := J3 w hSw; have f2 := HD.out); go_simp; first | done | with_reducible rfl)); simp only [Act.put, List.setIfInBounds_toArray, List.set_cons_zero, List.set_cons_succ])
        (refine mv_val 31 (v := ?_) rfl (by kernel_rfl) (by kernel_rfl) (by kernel_rfl) (fun _ _ _ h => h) (by rfl) hS ?_ ?_; rotate_left; (focus (intro w hSw; (try dsimp only at hSw); (have f1 := J3 w hSw; have f2 := HD.out); go_simp; first | done | with_reducible rfl)); simp only [Act.put, List.setIfInBounds_toArray, List.set_cons_zero, List.set_cons_succ])
        (refine mv_val 32 (v := ?_) rfl (by kernel_rfl) (by kernel_rfl) (by kernel_rfl) (fun _ _ _ h => h) (by rfl) hS ?_ ?_; rotate_left; (focus (intro w hSw; (try dsimp only at hSw); (have f1 := J3 w hSw; have f2 := HD.out); go_simp; first | done | with_reducible rfl)); simp only [Act.put, List.setIfInBounds_toArray, List.set_cons_zero, List.set_cons_succ])
        (refine mv_val 33 (v := ?_) rfl (by kernel_rfl) (by kernel_rfl) (by kernel_rfl) (fun _ _ _ h => h) (by rfl) hS ?_ ?_; rotate_left; (focus (intro w hSw; (try dsimp only at hSw); (have f1 := J3 w hSw; have f2 := HD.out); go_simp; first | done | with_reducible rfl)); simp only [Act.put, List.setIfInBounds_toArray, List.set_cons_zero, List.set_cons_succ])
        (refine mv_val 35 (v := ?_) rfl (by kernel_rfl) (by kernel_rfl) (by kernel_rfl) (fun _ _ _ h => h) (by rfl) hS ?_ ?_; rotate_left; (focus (intro w hSw; (try dsimp only at hSw); (have f1 := J3 w hSw; have f2 := HD.out); go_simp; first | done | with_reducible rfl)); simp only [Act.put, List.setIfInBounds_toArray, List.set_cons_zero, List.set_cons_succ])
        (refine mv_val 36 (v := ?_) rfl (by kernel_rfl) (by kernel_rfl) (by kernel_rfl) (fun _ _ _ h => h) (by rfl) hS ?_ ?_; rotate_left; (focus (intro w hSw; (try dsimp only at hSw); (have f1 := J3 w hSw; have f2 := HD.out); go_simp; first | done | with_reducible rfl)); simp only [Act.put, List.setIfInBounds_toArray, List.set_cons_zero, List.set_cons_succ])
        (refine mv_val 37 (v := ?_) rfl (by kernel_rfl) (by kernel_rfl) (by kernel_rfl) (fun _ _ _ h => h) (by rfl) hS ?_ ?_; rotate_left; (focus (intro w hSw; (try dsimp only at hSw); (have f1 := J3 w hSw; have f2 := HD.out); go_simp; first | done | with_reducible rfl)); simp only [Act.put, List.setIfInBounds_toArray, List.set_cons_zero, List.set_cons_succ])
        (refine mv_val 38 (v := ?_) rfl (by kernel_rfl) (by kernel_rfl) (by kernel_rfl) (fun _ _ _ h => h) (by rfl) hS ?_ ?_; rotate_left; (focus (intro w hSw; (try dsimp only at hSw); (have f1 := J3 w hSw; have f2 := HD.out); go_simp; first | done | with_reducible rfl)); simp only [Act.put, List.setIfInBounds_toArray, List.set_cons_zero, List.set_cons_succ])
        (refine mv_call 34 (f := ?_) (args := ?_) rfl (by kernel_rfl) (by rfl) ?_ ?_; rotate_left 2; (focus (go_simp; first | done | with_reducible rfl | (refine ⟨?_, ?_⟩ <;> with_reducible rfl))))
        refine (K8.out _).mono ?_; rintro e v4 ⟨rfl, hq⟩
        have hT : Below w3.heap.size w3 v4 := hS.trans (hq.mono hS.size)
        refine ⟨_, rfl, hT, ?_⟩
        replace hS := hT
        clear hT hq
        simp only [Act.put, List.setIfInBounds_toArray, List.set_cons_zero, List.set_cons_succ]
        (refine mv_val 39 (v := ?_) rfl (by kernel_rfl) (by kernel_rfl) (by kernel_rfl) (fun _ _ _ h => h) (by rfl) hS ?_ ?_; rotate_left; (focus (intro w hSw; (try dsimp only at hSw); (have f1 := J3 w hSw; have f2 := HD.out); go_simp; first | done | with_reducible rfl)); simp only [Act.put, List.setIfInBounds_toArray, List.set_cons_zero, List.set_cons_succ])
        (refine mv_skip 40 rfl (by kernel_rfl) (by kernel_rfl) (by kernel_rfl) (fun _ _ _ h => h) (by rfl) hS ?_; simp only [Act.put, List.setIfInBounds_toArray, List.set_cons_zero, List.set_cons_succ])
        (refine mv_skip 41 rfl (by kernel_rfl) (by kernel_rfl) (by kernel_rfl) (fun _ _ _ h => h) (by rfl) hS ?_; simp only [Act.put, List.setIfInBounds_toArray, List.set_cons_zero, List.set_cons_succ])
        (refine mv_skip 42 rfl (by kernel_rfl) (by kernel_rfl) (by kernel_rfl) (fun _ _ _ h => h) (by rfl) hS ?_; simp only [Act.put, List.setIfInBounds_toArray, List.set_cons_zero, List.set_cons_succ])
        (refine mv_skip 43 rfl (by kernel_rfl) (by kernel_rfl) (by kernel_rfl) (fun _ _ _ h => h) (by rfl) hS ?_; simp only [Act.put, List.setIfInBounds_toArray, List.set_cons_zero, List.set_cons_succ])
        (refine mv_val 44 (v := ?_) rfl (by kernel_rfl) (by kernel_rfl) (by kernel_rfl) (fun _ _ _ h => h) (by rfl) hS ?_ ?_; rotate_left; (focus (intro w hSw; (try dsimp only at hSw); (have f1 := J3 w hSw; have f2 := HD.out); go_simp; first | done | with_reducible rfl)); simp only [Act.put, List.setIfInBounds_toArray, List.set_cons_zero, List.set_cons_succ])
        (refine mv_val 45 (v := ?_) rfl (by kernel_rfl) (by kernel_rfl) (by kernel_rfl) (fun _ _ _ h => h) (by rfl) hS ?_ ?_; rotate_left; (focus (intro w hSw; (try dsimp only at hSw); (have f1 := J3 w hSw; have f2 := HD.out); go_simp; first | done | with_reducible rfl)); simp only [Act.put, List.setIfInBounds_toArray, List.set_cons_zero, List.set_cons_succ])
        (refine mv_val 46 (v := ?_) rfl (by kernel_rfl) (by kernel_rfl) (by kernel_rfl) (fun _ _ _ h => h) (by rfl) hS ?_ ?_; rotate_left; (focus (intro w hSw; (try dsimp only at hSw); (have f1 := J3 w hSw; have f2 := HD.out); go_simp; first | done | with_reducible rfl)); simp only [Act.put, List.setIfInBounds_toArray, List.set_cons_zero, List.set_cons_succ])
        (refine mv_val 47 (v := ?_) rfl (by kernel_rfl) (by kernel_rfl) (by kernel_rfl) (fun _ _ _ h => h) (by rfl) hS ?_ ?_; rotate_left; (focus (intro w hSw; (try dsimp only at hSw); (have f1 := J3 w hSw; have f2 := HD.out); go_simp; first | done | with_reducible rfl)); simp only [Act.put, List.setIfInBounds_toArray, List.set_cons_zero, List.set_cons_succ])
        (refine mv_call 48 (f := ?_) (args := ?_) rfl (by kernel_rfl) (by rfl) ?_ ?_; rotate_left 2; (focus (go_simp; first | done | with_reducible rfl | (refine ⟨?_, ?_⟩ <;> with_reducible rfl))))
        refine (K9.out _).mono ?_; rintro e v5 ⟨rfl, hq⟩
        have hT : Below w3.heap.size w3 v5 := hS.trans (hq.mono hS.size)
        refine ⟨_, rfl, hT, ?_⟩
        replace hS := hT
        clear hT hq
        simp only [Act.put, List.setIfInBounds_toArray, List.set_cons_zero, List.set_cons_succ]
        (refine mv_val 49 (v := ?_) rfl (by kernel_rfl) (by kernel_rfl) (by kernel_rfl) (fun _ _ _ h => h) (by rfl) hS ?_ ?_; rotate_left; (focus (intro w hSw; (try dsimp only at hSw); (have f1 := J3 w hSw; have f2 := HD.out); go_simp; first | done | with_reducible rfl)); simp only [Act.put, List.setIfInBounds_toArray, List.set_cons_zero, List.set_cons_succ])
        (refine mv_val 50 (v := ?_) rfl (by kernel_rfl) (by kernel_rfl) (by kernel_rfl) (fun _ _ _ h => h) (by rfl) hS ?_ ?_; rotate_left; (focus (intro w hSw; (try dsimp only at hSw); (have f1 := J3 w hSw; have f2 := HD.out); go_simp; first | done | with_reducible rfl)); simp only [Act.put, List.setIfInBounds_toArray, List.set_cons_zero, List.set_cons_succ])
        refine wpAnyH_done (by kernel_rfl) ?_ _
        go_wp2_with fail
        go_ret
        exact ⟨rfl, B3.trans (hS.mono B3.size)⟩
end Go.Proofs.Ytdijmfnjjcknaaa

/- The walk of the law SpanAnds: it answers true. No condition. -/
import Derived.Test.YtdijmfnjjcknaaaSpanW
import Derived.Test.YtdijmfnjjcknaaaSpanP
import Derived.Test.YtdijmfnjjcknaaaDrawn
namespace Go.Proofs.Ytdijmfnjjcknaaa
open Go.RowKit

theorem and_stable (w w1 : World) (a1 a2 b1 b2 c1 c2 X1 X2 : Int) (h0 : w.heap.size + 3 ≤ w1.heap.size) : ∀ W W' : World, (fun w' => w'.cell? ⟨w.heap.size, 0, none⟩ = some (.int .i64 a1) ∧ w'.cell? ⟨w.heap.size, 1, none⟩ = some (.int .i64 a2) ∧ w'.cell? ⟨w.heap.size + 1, 0, none⟩ = some (.int .i64 b1) ∧ w'.cell? ⟨w.heap.size + 1, 1, none⟩ = some (.int .i64 b2) ∧ w'.cell? ⟨w.heap.size + 1 + 1, 0, none⟩ = some (.int .i64 c1) ∧ w'.cell? ⟨w.heap.size + 1 + 1, 1, none⟩ = some (.int .i64 c2) ∧ w'.cell? ⟨w1.heap.size, 0, none⟩ = some (.int .i64 X1) ∧ w'.cell? ⟨w1.heap.size, 1, none⟩ = some (.int .i64 X2) ∧ Below w.heap.size w w' ∧ w1.heap.size + 1 ≤ w'.heap.size) W → Below W.heap.size W W' → (fun w' => w'.cell? ⟨w.heap.size, 0, none⟩ = some (.int .i64 a1) ∧ w'.cell? ⟨w.heap.size, 1, none⟩ = some (.int .i64 a2) ∧ w'.cell? ⟨w.heap.size + 1, 0, none⟩ = some (.int .i64 b1) ∧ w'.cell? ⟨w.heap.size + 1, 1, none⟩ = some (.int .i64 b2) ∧ w'.cell? ⟨w.heap.size + 1 + 1, 0, none⟩ = some (.int .i64 c1) ∧ w'.cell? ⟨w.heap.size + 1 + 1, 1, none⟩ = some (.int .i64 c2) ∧ w'.cell? ⟨w1.heap.size, 0, none⟩ = some (.int .i64 X1) ∧ w'.cell? ⟨w1.heap.size, 1, none⟩ = some (.int .i64 X2) ∧ Below w.heap.size w w' ∧ w1.heap.size + 1 ≤ w'.heap.size) W' := by
  rintro W W' ⟨h1, h2, h3, h4, h5, h6, h7, h8, hB, hN⟩ hb
  have := hb.size
  exact ⟨cell_be h1 hb (by simp; omega), cell_be h2 hb (by simp; omega), cell_be h3 hb (by simp; omega), cell_be h4 hb (by simp; omega), cell_be h5 hb (by simp; omega), cell_be h6 hb (by simp; omega), cell_be h7 hb (by simp; omega), cell_be h8 hb (by simp; omega), hB.trans (hb.mono hB.size), by omega⟩

/-- The law's one walk: what the callees answer is given by name. -/
def AndsFacts (a1 a2 b1 b2 c1 c2 t X1 X2 Y1 Y2 Z1 Z2 : Int) (G : Value) (p q r ex ea : Bool) : Prop :=
  (∀ w, Calls Try.prog 13 #[Sp a1 a2, Sp b1 b2] w fun e w' => e = .returned (Sp X1 X2) ∧ Below w.heap.size w w') ∧
  (∀ w, Calls Try.prog 13 #[Sp b1 b2, Sp a1 a2] w fun e w' => e = .returned (Sp X1 X2) ∧ Below w.heap.size w w') ∧
  (∀ w, Calls Try.prog 13 #[Sp X1 X2, Sp c1 c2] w fun e w' => e = .returned (Sp Y1 Y2) ∧ Below w.heap.size w w') ∧
  (∀ w, Calls Try.prog 13 #[Sp b1 b2, Sp c1 c2] w fun e w' => e = .returned (Sp Z1 Z2) ∧ Below w.heap.size w w') ∧
  (∀ w, Calls Try.prog 13 #[Sp a1 a2, Sp Z1 Z2] w fun e w' => e = .returned (Sp Y1 Y2) ∧ Below w.heap.size w w') ∧
  (∀ w, Calls Try.prog 13 #[Sp a1 a2, Sp a1 a2] w fun e w' => e = .returned G ∧ Below w.heap.size w w') ∧
  (∀ w, Calls Try.prog 14 #[Sp X1 X2, .int .i64 t] w fun e w' => e = .returned (.bool p) ∧ Below w.heap.size w w') ∧
  (∀ w, Calls Try.prog 14 #[Sp a1 a2, .int .i64 t] w fun e w' => e = .returned (.bool q) ∧ Below w.heap.size w w') ∧
  (∀ w, Calls Try.prog 14 #[Sp b1 b2, .int .i64 t] w fun e w' => e = .returned (.bool r) ∧ Below w.heap.size w w') ∧
  (∀ w, Calls Try.prog 15 #[Sp X1 X2] w fun e w' => e = .returned (.bool ex) ∧ Below w.heap.size w w') ∧
  (∀ w, Calls Try.prog 15 #[Sp a1 a2] w fun e w' => e = .returned (.bool ea) ∧ Below w.heap.size w w')

set_option maxRecDepth 100000 in
theorem anSpan_ff (a1 a2 b1 b2 c1 c2 t X1 X2 Y1 Y2 Z1 Z2 : Int) (r ex : Bool) (hx0 : (decide (X1 = 0) && decide (X2 = 0)) = ex) (h : AndsFacts a1 a2 b1 b2 c1 c2 t X1 X2 Y1 Y2 Z1 Z2 (Sp a1 a2) false false r ex false) (w : World) :
    Calls Try.prog 3 #[Sp a1 a2, Sp b1 b2, Sp c1 c2, .int .i64 t] w fun e w' => e = .returned (.bool true) ∧ Below w.heap.size w w' := by
  obtain ⟨C1, C2, C3, C4, C5, C6, D1, D2, D3, E1, E2⟩ := h
  have K1 := Lib.hid C1
  clear C1
  have K2 := Lib.hid C2
  have K3 := Lib.hid C3
  have K4 := Lib.hid C4
  have K5 := Lib.hid C5
  have K6 := Lib.hid C6
  have L1 := Lib.hid D1
  have L2 := Lib.hid D2
  have L3 := Lib.hid D3
  have M1 := Lib.hid E1
  have M2 := Lib.hid E2
  clear C2 C3 C4 C5 C6 D1 D2 D3 E1 E2
  go_enter Try.func3, Try.ntmps3
  go_wp2_with fail
  refine (K1.out _).mono ?_; rintro e w1 ⟨rfl, hb1⟩
  have s1 := hb1.size; simp at s1
  have z10 : w.heap.size < w1.heap.size := by omega
  have z11 : w.heap.size + 1 < w1.heap.size := by omega
  have z12 : w.heap.size + 1 + 1 < w1.heap.size := by omega
  have b1' : Below w.heap.size w w1 := Below.trans (by go_grown) (hb1.mono (by simp; omega))
  obtain ⟨hc1, hf1⟩ := bcell hb1
  have hst := and_stable w w1 a1 a2 b1 b2 c1 c2 X1 X2 (by omega)
  have N2 := Lib.hid (calls_keep hst K2.out)
  have N3 := Lib.hid (calls_keep hst K3.out)
  have N4 := Lib.hid (calls_keep hst K4.out)
  have N5 := Lib.hid (calls_keep hst K5.out)
  have N6 := Lib.hid (calls_keep hst K6.out)
  have O1 := Lib.hid (calls_keep hst L1.out)
  have O2 := Lib.hid (calls_keep hst L2.out)
  have O3 := Lib.hid (calls_keep hst L3.out)
  have R1 := Lib.hid (calls_keep hst M1.out)
  have R2 := Lib.hid (calls_keep hst M2.out)
  have R3 := Lib.hid (calls_keep hst wakes9_any)
  clear hst
  go_wp2
  refine wp_region_seq (S := fun w' => w'.cell? ⟨w.heap.size, 0, none⟩ = some (.int .i64 a1) ∧ w'.cell? ⟨w.heap.size, 1, none⟩ = some (.int .i64 a2) ∧ w'.cell? ⟨w.heap.size + 1, 0, none⟩ = some (.int .i64 b1) ∧ w'.cell? ⟨w.heap.size + 1, 1, none⟩ = some (.int .i64 b2) ∧ w'.cell? ⟨w.heap.size + 1 + 1, 0, none⟩ = some (.int .i64 c1) ∧ w'.cell? ⟨w.heap.size + 1 + 1, 1, none⟩ = some (.int .i64 c2) ∧ w'.cell? ⟨w1.heap.size, 0, none⟩ = some (.int .i64 X1) ∧ w'.cell? ⟨w1.heap.size, 1, none⟩ = some (.int .i64 X2) ∧ Below w.heap.size w w' ∧ w1.heap.size + 1 ≤ w'.heap.size) (by kernel_rfl) (by kernel_rfl) ?_ ?_
  · refine ⟨?_, ?_, ?_, ?_, ?_, ?_, ?_, ?_, ?_, ?_⟩ <;> first | (simp [go_sem, hc1, z10, z11, z12]; done) | (simp; done) | go_grown
  repeat (first
    | (refine seq_skip (by rfl) ?_; simp only [Act.put, List.setIfInBounds_toArray, List.set_cons_zero, List.set_cons_succ])
    | (refine seq_val (v := ?_) (by rfl) ?_ ?_; rotate_left; (focus (intro w hSw; (try dsimp only at hSw); go_simp; first | done | with_reducible rfl)); simp only [Act.put, List.setIfInBounds_toArray, List.set_cons_zero, List.set_cons_succ])
    | (refine seq_call (v := ?_) (f := ?_) (args := ?_) (by rfl) ?_ ?_ ?_; rotate_left 3; (focus (intro w; go_simp; first | done | with_reducible rfl | (refine ⟨?_, ?_⟩ <;> with_reducible rfl))); (focus (first | (with_reducible exact N2.out) | (with_reducible exact N3.out) | (with_reducible exact N4.out) | (with_reducible exact N5.out) | (with_reducible exact O1.out) | (with_reducible exact O2.out) | (with_reducible exact O3.out))); simp only [Act.put, List.setIfInBounds_toArray, List.set_cons_zero, List.set_cons_succ]))
  refine seq_nil ?_
  rintro w2 ⟨h1, h2, h3, h4, h5, h6, h7, h8, hB, hN⟩
  go_wp2_with fail
  refine wp_region_seq (S := fun w' => w'.cell? ⟨w.heap.size, 0, none⟩ = some (.int .i64 a1) ∧ w'.cell? ⟨w.heap.size, 1, none⟩ = some (.int .i64 a2) ∧ w'.cell? ⟨w.heap.size + 1, 0, none⟩ = some (.int .i64 b1) ∧ w'.cell? ⟨w.heap.size + 1, 1, none⟩ = some (.int .i64 b2) ∧ w'.cell? ⟨w.heap.size + 1 + 1, 0, none⟩ = some (.int .i64 c1) ∧ w'.cell? ⟨w.heap.size + 1 + 1, 1, none⟩ = some (.int .i64 c2) ∧ w'.cell? ⟨w1.heap.size, 0, none⟩ = some (.int .i64 X1) ∧ w'.cell? ⟨w1.heap.size, 1, none⟩ = some (.int .i64 X2) ∧ Below w.heap.size w w' ∧ w1.heap.size + 1 ≤ w'.heap.size) (by kernel_rfl) (by kernel_rfl) ?_ ?_
  · exact ⟨h1, h2, h3, h4, h5, h6, h7, h8, hB.drew, hN⟩
  repeat (first
    | (refine seq_skip (by rfl) ?_; simp only [Act.put, List.setIfInBounds_toArray, List.set_cons_zero, List.set_cons_succ])
    | (refine seq_val (v := ?_) (by rfl) ?_ ?_; rotate_left; (focus (intro w hSw; (try dsimp only at hSw); go_simp; first | done | with_reducible rfl)); simp only [Act.put, List.setIfInBounds_toArray, List.set_cons_zero, List.set_cons_succ])
    | (refine seq_call (v := ?_) (f := ?_) (args := ?_) (by rfl) ?_ ?_ ?_; rotate_left 3; (focus (intro w; go_simp; first | done | with_reducible rfl | (refine ⟨?_, ?_⟩ <;> with_reducible rfl))); (focus (first | (with_reducible exact R1.out) | (with_reducible exact R2.out) | (with_reducible exact N6.out) | (with_reducible exact R3.out))); simp only [Act.put, List.setIfInBounds_toArray, List.set_cons_zero, List.set_cons_succ]))
  refine seq_nil ?_
  rintro w3 ⟨g1, g2, g3, g4, g5, g6, g7, g8, gB, gN⟩
  go_wp2_with fail
  go_ret
  exact ⟨rfl, gB⟩
set_option maxRecDepth 100000 in
theorem anSpan_ft (a1 a2 b1 b2 c1 c2 t X1 X2 Y1 Y2 Z1 Z2 : Int) (G : Value) (r ex : Bool) (hx0 : (decide (X1 = 0) && decide (X2 = 0)) = ex) (h : AndsFacts a1 a2 b1 b2 c1 c2 t X1 X2 Y1 Y2 Z1 Z2 G false false r ex true) (w : World) :
    Calls Try.prog 3 #[Sp a1 a2, Sp b1 b2, Sp c1 c2, .int .i64 t] w fun e w' => e = .returned (.bool true) ∧ Below w.heap.size w w' := by
  obtain ⟨C1, C2, C3, C4, C5, C6, D1, D2, D3, E1, E2⟩ := h
  have K1 := Lib.hid C1
  clear C1
  have K2 := Lib.hid C2
  have K3 := Lib.hid C3
  have K4 := Lib.hid C4
  have K5 := Lib.hid C5
  have K6 := Lib.hid C6
  have L1 := Lib.hid D1
  have L2 := Lib.hid D2
  have L3 := Lib.hid D3
  have M1 := Lib.hid E1
  have M2 := Lib.hid E2
  clear C2 C3 C4 C5 C6 D1 D2 D3 E1 E2
  go_enter Try.func3, Try.ntmps3
  go_wp2_with fail
  refine (K1.out _).mono ?_; rintro e w1 ⟨rfl, hb1⟩
  have s1 := hb1.size; simp at s1
  have z10 : w.heap.size < w1.heap.size := by omega
  have z11 : w.heap.size + 1 < w1.heap.size := by omega
  have z12 : w.heap.size + 1 + 1 < w1.heap.size := by omega
  have b1' : Below w.heap.size w w1 := Below.trans (by go_grown) (hb1.mono (by simp; omega))
  obtain ⟨hc1, hf1⟩ := bcell hb1
  have hst := and_stable w w1 a1 a2 b1 b2 c1 c2 X1 X2 (by omega)
  have N2 := Lib.hid (calls_keep hst K2.out)
  have N3 := Lib.hid (calls_keep hst K3.out)
  have N4 := Lib.hid (calls_keep hst K4.out)
  have N5 := Lib.hid (calls_keep hst K5.out)
  have N6 := Lib.hid (calls_keep hst K6.out)
  have O1 := Lib.hid (calls_keep hst L1.out)
  have O2 := Lib.hid (calls_keep hst L2.out)
  have O3 := Lib.hid (calls_keep hst L3.out)
  have R1 := Lib.hid (calls_keep hst M1.out)
  have R2 := Lib.hid (calls_keep hst M2.out)
  have R3 := Lib.hid (calls_keep hst wakes9_any)
  clear hst
  go_wp2
  refine wp_region_seq (S := fun w' => w'.cell? ⟨w.heap.size, 0, none⟩ = some (.int .i64 a1) ∧ w'.cell? ⟨w.heap.size, 1, none⟩ = some (.int .i64 a2) ∧ w'.cell? ⟨w.heap.size + 1, 0, none⟩ = some (.int .i64 b1) ∧ w'.cell? ⟨w.heap.size + 1, 1, none⟩ = some (.int .i64 b2) ∧ w'.cell? ⟨w.heap.size + 1 + 1, 0, none⟩ = some (.int .i64 c1) ∧ w'.cell? ⟨w.heap.size + 1 + 1, 1, none⟩ = some (.int .i64 c2) ∧ w'.cell? ⟨w1.heap.size, 0, none⟩ = some (.int .i64 X1) ∧ w'.cell? ⟨w1.heap.size, 1, none⟩ = some (.int .i64 X2) ∧ Below w.heap.size w w' ∧ w1.heap.size + 1 ≤ w'.heap.size) (by kernel_rfl) (by kernel_rfl) ?_ ?_
  · refine ⟨?_, ?_, ?_, ?_, ?_, ?_, ?_, ?_, ?_, ?_⟩ <;> first | (simp [go_sem, hc1, z10, z11, z12]; done) | (simp; done) | go_grown
  repeat (first
    | (refine seq_skip (by rfl) ?_; simp only [Act.put, List.setIfInBounds_toArray, List.set_cons_zero, List.set_cons_succ])
    | (refine seq_val (v := ?_) (by rfl) ?_ ?_; rotate_left; (focus (intro w hSw; (try dsimp only at hSw); go_simp; first | done | with_reducible rfl)); simp only [Act.put, List.setIfInBounds_toArray, List.set_cons_zero, List.set_cons_succ])
    | (refine seq_call (v := ?_) (f := ?_) (args := ?_) (by rfl) ?_ ?_ ?_; rotate_left 3; (focus (intro w; go_simp; first | done | with_reducible rfl | (refine ⟨?_, ?_⟩ <;> with_reducible rfl))); (focus (first | (with_reducible exact N2.out) | (with_reducible exact N3.out) | (with_reducible exact N4.out) | (with_reducible exact N5.out) | (with_reducible exact O1.out) | (with_reducible exact O2.out) | (with_reducible exact O3.out))); simp only [Act.put, List.setIfInBounds_toArray, List.set_cons_zero, List.set_cons_succ]))
  refine seq_nil ?_
  rintro w2 ⟨h1, h2, h3, h4, h5, h6, h7, h8, hB, hN⟩
  go_wp2_with fail
  refine wp_region_seq (S := fun w' => w'.cell? ⟨w.heap.size, 0, none⟩ = some (.int .i64 a1) ∧ w'.cell? ⟨w.heap.size, 1, none⟩ = some (.int .i64 a2) ∧ w'.cell? ⟨w.heap.size + 1, 0, none⟩ = some (.int .i64 b1) ∧ w'.cell? ⟨w.heap.size + 1, 1, none⟩ = some (.int .i64 b2) ∧ w'.cell? ⟨w.heap.size + 1 + 1, 0, none⟩ = some (.int .i64 c1) ∧ w'.cell? ⟨w.heap.size + 1 + 1, 1, none⟩ = some (.int .i64 c2) ∧ w'.cell? ⟨w1.heap.size, 0, none⟩ = some (.int .i64 X1) ∧ w'.cell? ⟨w1.heap.size, 1, none⟩ = some (.int .i64 X2) ∧ Below w.heap.size w w' ∧ w1.heap.size + 1 ≤ w'.heap.size) (by kernel_rfl) (by kernel_rfl) ?_ ?_
  · exact ⟨h1, h2, h3, h4, h5, h6, h7, h8, hB.drew, hN⟩
  repeat (first
    | (refine seq_skip (by rfl) ?_; simp only [Act.put, List.setIfInBounds_toArray, List.set_cons_zero, List.set_cons_succ])
    | (refine seq_val (v := ?_) (by rfl) ?_ ?_; rotate_left; (focus (intro w hSw; (try dsimp only at hSw); go_simp; first | done | with_reducible rfl)); simp only [Act.put, List.setIfInBounds_toArray, List.set_cons_zero, List.set_cons_succ])
    | (refine seq_call (v := ?_) (f := ?_) (args := ?_) (by rfl) ?_ ?_ ?_; rotate_left 3; (focus (intro w; go_simp; first | done | with_reducible rfl | (refine ⟨?_, ?_⟩ <;> with_reducible rfl))); (focus (first | (with_reducible exact R1.out) | (with_reducible exact R2.out) | (with_reducible exact N6.out) | (with_reducible exact R3.out))); simp only [Act.put, List.setIfInBounds_toArray, List.set_cons_zero, List.set_cons_succ]))
  refine seq_nil ?_
  rintro w3 ⟨g1, g2, g3, g4, g5, g6, g7, g8, gB, gN⟩
  go_wp2_with fail
  go_ret
  exact ⟨rfl, gB⟩
set_option maxRecDepth 100000 in
theorem anSpan_tf (a1 a2 b1 b2 c1 c2 t X1 X2 Y1 Y2 Z1 Z2 : Int) (r ex : Bool) (hx0 : (decide (X1 = 0) && decide (X2 = 0)) = ex) (h : AndsFacts a1 a2 b1 b2 c1 c2 t X1 X2 Y1 Y2 Z1 Z2 (Sp a1 a2) r true r ex false) (w : World) :
    Calls Try.prog 3 #[Sp a1 a2, Sp b1 b2, Sp c1 c2, .int .i64 t] w fun e w' => e = .returned (.bool true) ∧ Below w.heap.size w w' := by
  obtain ⟨C1, C2, C3, C4, C5, C6, D1, D2, D3, E1, E2⟩ := h
  have K1 := Lib.hid C1
  clear C1
  have K2 := Lib.hid C2
  have K3 := Lib.hid C3
  have K4 := Lib.hid C4
  have K5 := Lib.hid C5
  have K6 := Lib.hid C6
  have L1 := Lib.hid D1
  have L2 := Lib.hid D2
  have L3 := Lib.hid D3
  have M1 := Lib.hid E1
  have M2 := Lib.hid E2
  clear C2 C3 C4 C5 C6 D1 D2 D3 E1 E2
  go_enter Try.func3, Try.ntmps3
  go_wp2_with fail
  refine (K1.out _).mono ?_; rintro e w1 ⟨rfl, hb1⟩
  have s1 := hb1.size; simp at s1
  have z10 : w.heap.size < w1.heap.size := by omega
  have z11 : w.heap.size + 1 < w1.heap.size := by omega
  have z12 : w.heap.size + 1 + 1 < w1.heap.size := by omega
  have b1' : Below w.heap.size w w1 := Below.trans (by go_grown) (hb1.mono (by simp; omega))
  obtain ⟨hc1, hf1⟩ := bcell hb1
  have hst := and_stable w w1 a1 a2 b1 b2 c1 c2 X1 X2 (by omega)
  have N2 := Lib.hid (calls_keep hst K2.out)
  have N3 := Lib.hid (calls_keep hst K3.out)
  have N4 := Lib.hid (calls_keep hst K4.out)
  have N5 := Lib.hid (calls_keep hst K5.out)
  have N6 := Lib.hid (calls_keep hst K6.out)
  have O1 := Lib.hid (calls_keep hst L1.out)
  have O2 := Lib.hid (calls_keep hst L2.out)
  have O3 := Lib.hid (calls_keep hst L3.out)
  have R1 := Lib.hid (calls_keep hst M1.out)
  have R2 := Lib.hid (calls_keep hst M2.out)
  have R3 := Lib.hid (calls_keep hst wakes9_any)
  clear hst
  go_wp2
  refine wp_region_seq (S := fun w' => w'.cell? ⟨w.heap.size, 0, none⟩ = some (.int .i64 a1) ∧ w'.cell? ⟨w.heap.size, 1, none⟩ = some (.int .i64 a2) ∧ w'.cell? ⟨w.heap.size + 1, 0, none⟩ = some (.int .i64 b1) ∧ w'.cell? ⟨w.heap.size + 1, 1, none⟩ = some (.int .i64 b2) ∧ w'.cell? ⟨w.heap.size + 1 + 1, 0, none⟩ = some (.int .i64 c1) ∧ w'.cell? ⟨w.heap.size + 1 + 1, 1, none⟩ = some (.int .i64 c2) ∧ w'.cell? ⟨w1.heap.size, 0, none⟩ = some (.int .i64 X1) ∧ w'.cell? ⟨w1.heap.size, 1, none⟩ = some (.int .i64 X2) ∧ Below w.heap.size w w' ∧ w1.heap.size + 1 ≤ w'.heap.size) (by kernel_rfl) (by kernel_rfl) ?_ ?_
  · refine ⟨?_, ?_, ?_, ?_, ?_, ?_, ?_, ?_, ?_, ?_⟩ <;> first | (simp [go_sem, hc1, z10, z11, z12]; done) | (simp; done) | go_grown
  repeat (first
    | (refine seq_skip (by rfl) ?_; simp only [Act.put, List.setIfInBounds_toArray, List.set_cons_zero, List.set_cons_succ])
    | (refine seq_val (v := ?_) (by rfl) ?_ ?_; rotate_left; (focus (intro w hSw; (try dsimp only at hSw); go_simp; first | done | with_reducible rfl)); simp only [Act.put, List.setIfInBounds_toArray, List.set_cons_zero, List.set_cons_succ])
    | (refine seq_call (v := ?_) (f := ?_) (args := ?_) (by rfl) ?_ ?_ ?_; rotate_left 3; (focus (intro w; go_simp; first | done | with_reducible rfl | (refine ⟨?_, ?_⟩ <;> with_reducible rfl))); (focus (first | (with_reducible exact N2.out) | (with_reducible exact N3.out) | (with_reducible exact N4.out) | (with_reducible exact N5.out) | (with_reducible exact O1.out) | (with_reducible exact O2.out) | (with_reducible exact O3.out))); simp only [Act.put, List.setIfInBounds_toArray, List.set_cons_zero, List.set_cons_succ]))
  refine seq_nil ?_
  rintro w2 ⟨h1, h2, h3, h4, h5, h6, h7, h8, hB, hN⟩
  go_wp2_with fail
  refine wp_region_seq (S := fun w' => w'.cell? ⟨w.heap.size, 0, none⟩ = some (.int .i64 a1) ∧ w'.cell? ⟨w.heap.size, 1, none⟩ = some (.int .i64 a2) ∧ w'.cell? ⟨w.heap.size + 1, 0, none⟩ = some (.int .i64 b1) ∧ w'.cell? ⟨w.heap.size + 1, 1, none⟩ = some (.int .i64 b2) ∧ w'.cell? ⟨w.heap.size + 1 + 1, 0, none⟩ = some (.int .i64 c1) ∧ w'.cell? ⟨w.heap.size + 1 + 1, 1, none⟩ = some (.int .i64 c2) ∧ w'.cell? ⟨w1.heap.size, 0, none⟩ = some (.int .i64 X1) ∧ w'.cell? ⟨w1.heap.size, 1, none⟩ = some (.int .i64 X2) ∧ Below w.heap.size w w' ∧ w1.heap.size + 1 ≤ w'.heap.size) (by kernel_rfl) (by kernel_rfl) ?_ ?_
  · exact ⟨h1, h2, h3, h4, h5, h6, h7, h8, hB.drew, hN⟩
  repeat (first
    | (refine seq_skip (by rfl) ?_; simp only [Act.put, List.setIfInBounds_toArray, List.set_cons_zero, List.set_cons_succ])
    | (refine seq_val (v := ?_) (by rfl) ?_ ?_; rotate_left; (focus (intro w hSw; (try dsimp only at hSw); go_simp; first | done | with_reducible rfl)); simp only [Act.put, List.setIfInBounds_toArray, List.set_cons_zero, List.set_cons_succ])
    | (refine seq_call (v := ?_) (f := ?_) (args := ?_) (by rfl) ?_ ?_ ?_; rotate_left 3; (focus (intro w; go_simp; first | done | with_reducible rfl | (refine ⟨?_, ?_⟩ <;> with_reducible rfl))); (focus (first | (with_reducible exact R1.out) | (with_reducible exact R2.out) | (with_reducible exact N6.out) | (with_reducible exact R3.out))); simp only [Act.put, List.setIfInBounds_toArray, List.set_cons_zero, List.set_cons_succ]))
  refine seq_nil ?_
  rintro w3 ⟨g1, g2, g3, g4, g5, g6, g7, g8, gB, gN⟩
  go_wp2_with fail
  go_ret
  exact ⟨rfl, gB⟩
set_option maxRecDepth 100000 in
theorem anSpan_tt (a1 a2 b1 b2 c1 c2 t X1 X2 Y1 Y2 Z1 Z2 : Int) (G : Value) (r ex : Bool) (hx0 : (decide (X1 = 0) && decide (X2 = 0)) = ex) (h : AndsFacts a1 a2 b1 b2 c1 c2 t X1 X2 Y1 Y2 Z1 Z2 G r true r ex true) (w : World) :
    Calls Try.prog 3 #[Sp a1 a2, Sp b1 b2, Sp c1 c2, .int .i64 t] w fun e w' => e = .returned (.bool true) ∧ Below w.heap.size w w' := by
  obtain ⟨C1, C2, C3, C4, C5, C6, D1, D2, D3, E1, E2⟩ := h
  have K1 := Lib.hid C1
  clear C1
  have K2 := Lib.hid C2
  have K3 := Lib.hid C3
  have K4 := Lib.hid C4
  have K5 := Lib.hid C5
  have K6 := Lib.hid C6
  have L1 := Lib.hid D1
  have L2 := Lib.hid D2
  have L3 := Lib.hid D3
  have M1 := Lib.hid E1
  have M2 := Lib.hid E2
  clear C2 C3 C4 C5 C6 D1 D2 D3 E1 E2
  go_enter Try.func3, Try.ntmps3
  go_wp2_with fail
  refine (K1.out _).mono ?_; rintro e w1 ⟨rfl, hb1⟩
  have s1 := hb1.size; simp at s1
  have z10 : w.heap.size < w1.heap.size := by omega
  have z11 : w.heap.size + 1 < w1.heap.size := by omega
  have z12 : w.heap.size + 1 + 1 < w1.heap.size := by omega
  have b1' : Below w.heap.size w w1 := Below.trans (by go_grown) (hb1.mono (by simp; omega))
  obtain ⟨hc1, hf1⟩ := bcell hb1
  have hst := and_stable w w1 a1 a2 b1 b2 c1 c2 X1 X2 (by omega)
  have N2 := Lib.hid (calls_keep hst K2.out)
  have N3 := Lib.hid (calls_keep hst K3.out)
  have N4 := Lib.hid (calls_keep hst K4.out)
  have N5 := Lib.hid (calls_keep hst K5.out)
  have N6 := Lib.hid (calls_keep hst K6.out)
  have O1 := Lib.hid (calls_keep hst L1.out)
  have O2 := Lib.hid (calls_keep hst L2.out)
  have O3 := Lib.hid (calls_keep hst L3.out)
  have R1 := Lib.hid (calls_keep hst M1.out)
  have R2 := Lib.hid (calls_keep hst M2.out)
  have R3 := Lib.hid (calls_keep hst wakes9_any)
  clear hst
  go_wp2
  refine wp_region_seq (S := fun w' => w'.cell? ⟨w.heap.size, 0, none⟩ = some (.int .i64 a1) ∧ w'.cell? ⟨w.heap.size, 1, none⟩ = some (.int .i64 a2) ∧ w'.cell? ⟨w.heap.size + 1, 0, none⟩ = some (.int .i64 b1) ∧ w'.cell? ⟨w.heap.size + 1, 1, none⟩ = some (.int .i64 b2) ∧ w'.cell? ⟨w.heap.size + 1 + 1, 0, none⟩ = some (.int .i64 c1) ∧ w'.cell? ⟨w.heap.size + 1 + 1, 1, none⟩ = some (.int .i64 c2) ∧ w'.cell? ⟨w1.heap.size, 0, none⟩ = some (.int .i64 X1) ∧ w'.cell? ⟨w1.heap.size, 1, none⟩ = some (.int .i64 X2) ∧ Below w.heap.size w w' ∧ w1.heap.size + 1 ≤ w'.heap.size) (by kernel_rfl) (by kernel_rfl) ?_ ?_
  · refine ⟨?_, ?_, ?_, ?_, ?_, ?_, ?_, ?_, ?_, ?_⟩ <;> first | (simp [go_sem, hc1, z10, z11, z12]; done) | (simp; done) | go_grown
  repeat (first
    | (refine seq_skip (by rfl) ?_; simp only [Act.put, List.setIfInBounds_toArray, List.set_cons_zero, List.set_cons_succ])
    | (refine seq_val (v := ?_) (by rfl) ?_ ?_; rotate_left; (focus (intro w hSw; (try dsimp only at hSw); go_simp; first | done | with_reducible rfl)); simp only [Act.put, List.setIfInBounds_toArray, List.set_cons_zero, List.set_cons_succ])
    | (refine seq_call (v := ?_) (f := ?_) (args := ?_) (by rfl) ?_ ?_ ?_; rotate_left 3; (focus (intro w; go_simp; first | done | with_reducible rfl | (refine ⟨?_, ?_⟩ <;> with_reducible rfl))); (focus (first | (with_reducible exact N2.out) | (with_reducible exact N3.out) | (with_reducible exact N4.out) | (with_reducible exact N5.out) | (with_reducible exact O1.out) | (with_reducible exact O2.out) | (with_reducible exact O3.out))); simp only [Act.put, List.setIfInBounds_toArray, List.set_cons_zero, List.set_cons_succ]))
  refine seq_nil ?_
  rintro w2 ⟨h1, h2, h3, h4, h5, h6, h7, h8, hB, hN⟩
  go_wp2_with fail
  refine wp_region_seq (S := fun w' => w'.cell? ⟨w.heap.size, 0, none⟩ = some (.int .i64 a1) ∧ w'.cell? ⟨w.heap.size, 1, none⟩ = some (.int .i64 a2) ∧ w'.cell? ⟨w.heap.size + 1, 0, none⟩ = some (.int .i64 b1) ∧ w'.cell? ⟨w.heap.size + 1, 1, none⟩ = some (.int .i64 b2) ∧ w'.cell? ⟨w.heap.size + 1 + 1, 0, none⟩ = some (.int .i64 c1) ∧ w'.cell? ⟨w.heap.size + 1 + 1, 1, none⟩ = some (.int .i64 c2) ∧ w'.cell? ⟨w1.heap.size, 0, none⟩ = some (.int .i64 X1) ∧ w'.cell? ⟨w1.heap.size, 1, none⟩ = some (.int .i64 X2) ∧ Below w.heap.size w w' ∧ w1.heap.size + 1 ≤ w'.heap.size) (by kernel_rfl) (by kernel_rfl) ?_ ?_
  · exact ⟨h1, h2, h3, h4, h5, h6, h7, h8, hB.drew, hN⟩
  repeat (first
    | (refine seq_skip (by rfl) ?_; simp only [Act.put, List.setIfInBounds_toArray, List.set_cons_zero, List.set_cons_succ])
    | (refine seq_val (v := ?_) (by rfl) ?_ ?_; rotate_left; (focus (intro w hSw; (try dsimp only at hSw); go_simp; first | done | with_reducible rfl)); simp only [Act.put, List.setIfInBounds_toArray, List.set_cons_zero, List.set_cons_succ])
    | (refine seq_call (v := ?_) (f := ?_) (args := ?_) (by rfl) ?_ ?_ ?_; rotate_left 3; (focus (intro w; go_simp; first | done | with_reducible rfl | (refine ⟨?_, ?_⟩ <;> with_reducible rfl))); (focus (first | (with_reducible exact R1.out) | (with_reducible exact R2.out) | (with_reducible exact N6.out) | (with_reducible exact R3.out))); simp only [Act.put, List.setIfInBounds_toArray, List.set_cons_zero, List.set_cons_succ]))
  refine seq_nil ?_
  rintro w3 ⟨g1, g2, g3, g4, g5, g6, g7, g8, gB, gN⟩
  go_wp2_with fail
  go_ret
  exact ⟨rfl, gB⟩

theorem spanAnds_walk (a1 a2 b1 b2 c1 c2 t : Int) (w : World) :
    Calls Try.prog 3 #[Sp a1 a2, Sp b1 b2, Sp c1 c2, .int .i64 t] w fun e w' => e = .returned (.bool true) ∧ Below w.heap.size w w' := by
  have C1 := fun w => and_any a1 a2 b1 b2 w
  have C2 := fun w => and_any b1 b2 a1 a2 w
  rw [andF_comm, andT_comm] at C2
  have C4 := fun w => and_any b1 b2 c1 c2 w
  have C5 := fun w => and_any a1 a2 (andF b1 b2 c1 c2) (andT b1 b2 c1 c2) w
  rw [and_assoc_F, and_assoc_T] at C5
  have C3 := fun w => and_any (andF a1 a2 b1 b2) (andT a1 a2 b1 b2) c1 c2 w
  have C6 := fun w => and_any a1 a2 a1 a2 w
  rw [andF_self, andT_self] at C6
  have hx := and_has a1 a2 b1 b2 t
  have ho := and_or a1 a2 b1 b2
  have D1 := fun w => has_any (andF a1 a2 b1 b2) (andT a1 a2 b1 b2) t w
  have D2 := fun w => has_any a1 a2 t w
  have D3 := fun w => has_any b1 b2 t w
  have E1 := fun w => empty_any (andF a1 a2 b1 b2) (andT a1 a2 b1 b2) w
  have E2 := fun w => empty_any a1 a2 w
  have hex : (decide (andF a1 a2 b1 b2 = 0) && decide (andT a1 a2 b1 b2 = 0)) = decide (andT a1 a2 b1 b2 ≤ andF a1 a2 b1 b2) := by
    rw [Bool.eq_iff_iff]; simp only [Bool.and_eq_true, decide_eq_true_eq]; omega
  by_cases q : a1 ≤ t ∧ t < a2
  · have hp : decide (andF a1 a2 b1 b2 ≤ t ∧ t < andT a1 a2 b1 b2) = decide (b1 ≤ t ∧ t < b2) := by
      rw [Bool.eq_iff_iff]; simp only [decide_eq_true_eq]; omega
    rw [hp] at D1
    rw [decide_eq_true q] at D2
    by_cases ea : a2 ≤ a1
    · rw [decide_eq_true ea] at E2
      exact anSpan_tt a1 a2 b1 b2 c1 c2 t _ _ _ _ _ _ _ _ _ hex ⟨C1, C2, C3, C4, C5, C6, D1, D2, D3, E1, E2⟩ w
    · rw [decide_eq_false ea] at E2
      have g1 : gF a1 a2 = a1 := if_neg ea
      have g2 : gT a1 a2 = a2 := if_neg ea
      rw [g1, g2] at C6
      exact anSpan_tf a1 a2 b1 b2 c1 c2 t _ _ _ _ _ _ _ _ hex ⟨C1, C2, C3, C4, C5, C6, D1, D2, D3, E1, E2⟩ w
  · have hp : decide (andF a1 a2 b1 b2 ≤ t ∧ t < andT a1 a2 b1 b2) = false := by
      rw [decide_eq_false_iff_not]; omega
    rw [hp] at D1
    rw [decide_eq_false q] at D2
    by_cases ea : a2 ≤ a1
    · rw [decide_eq_true ea] at E2
      exact anSpan_ft a1 a2 b1 b2 c1 c2 t _ _ _ _ _ _ _ _ _ hex ⟨C1, C2, C3, C4, C5, C6, D1, D2, D3, E1, E2⟩ w
    · rw [decide_eq_false ea] at E2
      have g1 : gF a1 a2 = a1 := if_neg ea
      have g2 : gT a1 a2 = a2 := if_neg ea
      rw [g1, g2] at C6
      exact anSpan_ff a1 a2 b1 b2 c1 c2 t _ _ _ _ _ _ _ _ hex ⟨C1, C2, C3, C4, C5, C6, D1, D2, D3, E1, E2⟩ w
end Go.Proofs.Ytdijmfnjjcknaaa

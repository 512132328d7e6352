/- The walks of the laws of layer 2 (varint): each answers true. -/
import Derived.Test.YtlmbajlgdcpgkaaVarGet
namespace Go.Proofs.Ytlmbajlgdcpgkaa
open Go.RowKit

theorem rd_three (W : World) (v u x : Value) (T : TypeId) (b B : Nat) (hb : b = W.heap.size) (hB : b < B) : Rd (W.alloc (.cells #[v, u, x] T)) B (some ⟨b, 0, none⟩) [v, u, x] := by
  subst hb
  refine .inr ⟨_, _, rfl, hB, fun j y hy => ?_⟩
  match j, hy with
  | 0, hy => simp at hy; subst hy; simp [go_sem]
  | 1, hy => simp at hy; subst hy; simp [go_sem]
  | 2, hy => simp at hy; subst hy; simp [go_sem]

set_option maxRecDepth 100000 in
theorem puts_any (w : World) : Calls Try.prog 44 #[] w fun e w' => e = .returned (.bool true) ∧ Below w.heap.size w w' := by
  have hg : vget [172, 2, 255] = (300, 2, 0) := by rfl
  have hp : [255] ++ vput 300 = [255, 172, 2] := by rw [vput_big (by omega), vput_small (by omega)]; rfl
  have G1 : ∀ (A : Option Addr) (w : World) (B : Nat), Rd w B A [.int .u8 172, .int .u8 2, .int .u8 255] → Calls Try.prog 45 #[.slice A 3 3] w fun e w' => e = .returned (.tuple #[.int .u64 300, .int .i64 2, .int .i64 0]) ∧ w = w' := by
    intro A w B h
    have := Get_any B A 3 [172, 2, 255] w h (by decide)
    rw [hg] at this; exact this
  have P1 : ∀ (A : Option Addr) (w : World) (B : Nat), Rd w B A [.int .u8 255] → Calls Try.prog 42 #[.slice A 1 1, .int .u64 300] w (RetB w [255, 172, 2]) := by
    intro A w B h
    have := Put_any B A 1 [255] 300 (by omega) w h (by decide)
    rw [hp] at this; exact this
  have Z1 := fun w => Zig_any (-1) (by omega) (by omega) w
  rw [show zig (-1) = 1 by rfl] at Z1
  have Z2 := fun w => Zag_any 3 (by omega) (by omega) w
  rw [show zag 3 = -2 by rfl] at Z2
  have H1 := Lib.hid G1
  have H2 := Lib.hid P1
  have H3 := Lib.hid Z1
  have H4 := Lib.hid Z2
  clear G1 P1 Z1 Z2 hg hp
  go_enter Try.func44, Try.ntmps44
  go_wp2_with fail
  refine (H1.out _ _ _ (by exact rd_three _ _ _ _ _ _ _ rfl (Nat.lt_add_one _))).mono ?_; rintro e w1 ⟨rfl, rfl⟩
  go_wp2_with fail
  refine (H2.out _ _ _ (by exact rd_one _ _ _ _ _ (by simp) (Nat.lt_add_one _))).mono ?_; rintro e w2 ⟨A2, c2, rfl, hown, hb⟩
  have hb' : Below w.heap.size w w2 := Below.trans (by go_grown) (hb.mono (by simp; omega))
  have hcv : (convert 22 9 (.slice A2 3 c2)).run Try.prog w2 = .ok (.string ⟨[255, 172, 2].toArray⟩) w2 := conv_own hown
  go_wp2_with (first
    | (go_at_call 47; refine (H3.out _).mono ?_; rintro e w5 ⟨rfl, rfl⟩)
    | (go_at_call 49; refine (H4.out _).mono ?_; rintro e w5 ⟨rfl, rfl⟩))
  go_ret
  exact ⟨rfl, hb'⟩

set_option maxRecDepth 100000 in
theorem varintZigs_walk (v u : Int) (hv : -9223372036854775808 ≤ v ∧ v ≤ 9223372036854775807) (hu : 0 ≤ u ∧ u < 18446744073709551616) (w : World) :
    Calls Try.prog 5 #[.int .i64 v, .int .u64 u] w fun e w' => e = .returned (.bool true) ∧ Below w.heap.size w w' := by
  have H1 := Lib.hid (fun w => Zig_any v hv.1 hv.2 w)
  have H2 := Lib.hid (fun w => rZig_any v hv.1 hv.2 w)
  have H3 := Lib.hid (fun w => Zag_any u hu.1 hu.2 w)
  have H4 := Lib.hid (fun w => rZag_any u hu.1 hu.2 w)
  clear hv hu
  go_enter Try.func5, Try.ntmps5
  go_wp2_with (first
    | (go_at_call 47; refine (H1.out _).mono ?_; rintro e w5 ⟨rfl, rfl⟩)
    | (go_at_call 48; refine (H2.out _).mono ?_; rintro e w5 ⟨rfl, rfl⟩)
    | (go_at_call 49; refine (H3.out _).mono ?_; rintro e w5 ⟨rfl, rfl⟩)
    | (go_at_call 50; refine (H4.out _).mono ?_; rintro e w5 ⟨rfl, rfl⟩)
    | (go_at_call 44; refine (puts_any _).mono ?_; rintro e w5 ⟨rfl, hb⟩))
  go_ret
  exact ⟨rfl, hb⟩
end Go.Proofs.Ytlmbajlgdcpgkaa

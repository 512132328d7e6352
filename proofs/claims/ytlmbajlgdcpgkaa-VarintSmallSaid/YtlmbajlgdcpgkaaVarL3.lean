/- The walks of VarintGets and VarintSmall. -/
import Derived.Test.YtlmbajlgdcpgkaaVarL
namespace Go.Proofs.Ytlmbajlgdcpgkaa
open Go.RowKit
set_option linter.unusedVariables false

set_option maxHeartbeats 1000000 in
set_option maxRecDepth 100000 in
theorem varintGets_walk (A : Option Addr) (c : Nat) (l : List UInt8) (W : World) (rd : Rd W W.heap.size A (cells l)) (hl : l.length ≤ c ∧ c ≤ maxLen) :
    Calls Try.prog 4 #[.slice A l.length c] W fun e w' => e = .returned (.bool true) ∧ Below W.heap.size W w' := by
  by_cases h1000 : l.length ≤ 1000
  case neg =>
    go_enter Try.func4, Try.ntmps4
    go_wp2
    go_ret
    exact ⟨rfl, Below.refl _ _⟩
  have H1 := Lib.hid (Get_any W.heap.size A c l W rd (by omega))
  have H2 := Lib.hid (rGet_any W.heap.size A c l W rd (by omega))
  go_enter Try.func4, Try.ntmps4
  go_wp2_with (first
    | (go_at_call 45; refine H1.out.mono ?_; rintro e w5 ⟨rfl, rfl⟩)
    | (go_at_call 46; refine H2.out.mono ?_; rintro e w5 ⟨rfl, rfl⟩)
    | (go_at_call 44; refine (puts_any _).mono ?_; rintro e w5 ⟨rfl, hb⟩))
  go_ret
  exact ⟨rfl, hb⟩

theorem zigP {v : Int} (h : 0 ≤ v) : zig v = v * 2 := by unfold zig; split <;> omega
theorem zigN {v : Int} (h : v < 0) : zig v = -1 - 2 * v := by unfold zig; split <;> omega

set_option maxHeartbeats 1000000 in
set_option maxRecDepth 100000 in
theorem varintSmall_walk (v : Int) (W : World) (hv : -9223372036854775808 ≤ v ∧ v ≤ 9223372036854775807) :
    Calls Try.prog 8 #[.int .i64 v] W fun e w' => e = .returned (.bool true) ∧ Below W.heap.size W w' := by
  have Z1 := fun w => Zig_any v hv.1 hv.2 w
  by_cases h0 : 0 ≤ v
  · by_cases h62 : v < 4611686018427387904
    · have Z2 := fun w => Zig_any (-v - 1) (by omega) (by omega) w
      rw [zigP h0] at Z1
      rw [zigN (by omega), show -1 - 2 * (-v - 1) = v * 2 + 1 by omega] at Z2
      have H1 := Lib.hid Z1
      have H2 := Lib.hid Z2
      clear Z1 Z2
      go_enter Try.func8, Try.ntmps8
      go_wp2_with fail
      refine (H1.out _).mono ?_; rintro e w5 ⟨rfl, rfl⟩
      go_wp2_with fail
      trace_state
      refine (H2.out _).mono ?_; rintro e w5 ⟨rfl, rfl⟩
      go_wp2_with fail
      refine (puts_any _).mono ?_; rintro e w5 ⟨rfl, hb⟩
      go_wp2_with fail
      go_ret
      exact ⟨rfl, hb⟩
    · rw [zigP h0] at Z1
      have H1 := Lib.hid Z1
      clear Z1
      go_enter Try.func8, Try.ntmps8
      go_wp2_with (first
        | (go_at_call 47; refine (H1.out _).mono ?_; rintro e w5 ⟨rfl, rfl⟩)
        | (go_at_call 44; refine (puts_any _).mono ?_; rintro e w5 ⟨rfl, hb⟩))
      go_ret
      exact ⟨rfl, hb⟩
  · rw [zigN (by omega)] at Z1
    have H1 := Lib.hid Z1
    clear Z1
    have hd : (-1 - 2 * v) / 2 = -1 - v := by omega
    go_enter Try.func8, Try.ntmps8
    go_wp2_with (first
      | (go_at_call 47; refine (H1.out _).mono ?_; rintro e w5 ⟨rfl, rfl⟩)
      | (go_at_call 44; refine (puts_any _).mono ?_; rintro e w5 ⟨rfl, hb⟩))
    go_ret
    exact ⟨rfl, hb⟩
end Go.Proofs.Ytlmbajlgdcpgkaa

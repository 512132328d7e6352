/- The walk of the examples of layer 9: they are true. No condition. -/
import Derived.Test.YtdijmfnjjcknaaaSpan2
namespace Go.Proofs.Ytdijmfnjjcknaaa
open Go.RowKit

theorem wakes9_any (w : World) : Calls Try.prog 16 #[] w fun e w' => e = .returned (.bool true) ∧ Below w.heap.size w w' := by
  have F1 := fun w => Floor_any (-7) 5 w
  rw [show flr (-7) 5 = -10 by decide +kernel, show wrg 5 [-7] = 0 by decide +kernel] at F1
  have F2 := fun w => Floor_any 5 0 w
  rw [show flr 5 0 = 0 by decide +kernel, show wrg 0 [5] = 1 by decide +kernel] at F2
  have F3 := fun w => Out_any 3 12 5 w
  rw [show OutF 3 12 5 = 0 by decide +kernel, show OutT 3 12 5 = 15 by decide +kernel, show wrg 5 [3, 12] = 0 by decide +kernel] at F3
  have F4 := fun w => In_any 3 12 5 w
  rw [show InF 3 12 5 = 5 by decide +kernel, show InT 3 12 5 = 10 by decide +kernel, show wrg 5 [3, 12] = 0 by decide +kernel] at F4
  have H1 := Lib.hid F1
  have H2 := Lib.hid F2
  have H3 := Lib.hid F3
  have H4 := Lib.hid F4
  clear F1 F2 F3 F4
  go_enter Try.func16, Try.ntmps16
  go_wp2_with fail
  refine (H1.out _).mono ?_; rintro e w1 ⟨rfl, hb1⟩
  go_wp2_with fail
  refine (H3.out _).mono ?_; rintro e w2 ⟨rfl, hb2⟩
  go_wp2_with fail
  refine (H4.out _).mono ?_; rintro e w3 ⟨rfl, hb3⟩
  have s1 := hb1.size; have s2 := hb2.size; have s3 := hb3.size; try simp at s3
  obtain ⟨hc3, hf3⟩ := bcell hb3
  have z3 : w2.heap.size < w3.heap.size := by omega
  have b3 : Below w.heap.size w w3 := ((hb1.trans (hb2.mono s1)).alloc (by omega) _).trans (hb3.mono (by simp; omega))
  go_wp2_with fail
  refine (H2.out _).mono ?_; rintro e w4 ⟨rfl, hb4⟩
  have s4 := hb4.size; try simp at s4
  obtain ⟨hc4, hf4⟩ := bcell hb4
  have z4 : w2.heap.size < w4.heap.size := by omega
  have z4' : w3.heap.size < w4.heap.size := by omega
  have b4 : Below w.heap.size w w4 := (b3.alloc (by omega) _).trans (hb4.mono (by simp; omega))
  go_wp2_with (first
    | (go_at_call 17; refine (time_any _ _).mono ?_; rintro e w5 ⟨rfl, rfl⟩)
    | (go_at_call 18; refine (width_any _ _).mono ?_; rintro e w5 ⟨rfl, rfl⟩))
  go_ret
  exact ⟨rfl, by go_grown⟩
end Go.Proofs.Ytdijmfnjjcknaaa

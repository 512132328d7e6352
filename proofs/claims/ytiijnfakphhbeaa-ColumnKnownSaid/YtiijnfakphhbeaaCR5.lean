/- The walk of the reference's bits (layer 6). For at most 65536 bits. -/
import Derived.Test.YtiijnfakphhbeaaCR4
namespace Go.Proofs.Ytiijnfakphhbeaa
open Go.RowKit Go.Maps
set_option linter.unusedVariables false
set_option linter.unusedSimpArgs false

/-- What the reference's bits leaves: the bits, how many bytes, the error. -/
def RetBits (w : World) (b : List UInt8) (n : Nat) (e : Ending) (w' : World) : Prop :=
  (tkE b n ≠ 0 ∧ e = .returned (.tuple #[.slice none 0 0, .int .i64 0, .int .i64 (tkE b n : Int)]) ∧ Below w.heap.size w w') ∨
  (tkE b n = 0 ∧ ∃ A c, e = .returned (.tuple #[.slice A n c, .int .i64 (size8 n : Nat), .int .i64 0]) ∧ w'.ownsRow w.heap.size 4 1 (.slice A n c) n (bools (blN b n)) ∧ Below w.heap.size w w')
theorem blN_snoc (b : List UInt8) (n : Nat) : blN b (n + 1) = blN b n ++ [bitAt b n] := by
  unfold blN
  rw [List.range_succ, List.map_append]; rfl

set_option maxHeartbeats 4000000 in
set_option maxRecDepth 100000 in
theorem rbits_any (B : Nat) (A : Option Addr) (c : Nat) (b : List UInt8) (n : Nat) (w : World) (hr : Rd w B A (cells b)) (hB : B ≤ w.heap.size) (hn : n ≤ 65536) (hb : b.length ≤ 4294967296) :
    Calls Try.prog 36 #[.slice A b.length c, .int .i64 (n : Int)] w (RetBits w b n) := by
  obtain ⟨m, hm⟩ : ∃ m, m = size8 n := ⟨_, rfl⟩
  have hmn : m ≤ n + 7 := by rw [hm]; unfold size8; omega
  have hmI : ((n : Int) + 7) / 8 = (m : Int) := by rw [hm]; unfold size8; omega
  have hm8 : n ≤ 8 * m := by rw [hm]; exact size8_le n
  have HM := Lib.hid hm
  by_cases hLm : b.length < m
  case pos =>
    have he : tkE b n = 20 := by unfold tkE; rw [if_pos (by rw [← hm]; exact hLm)]
    have HE := Lib.hid he
    have hLI : (b.length : Int) < (m : Int) := by omega
    clear he hm
    go_enter Try.func36, Try.ntmps36
    go_wp2_with fail
    go_ret3
    exact .inl ⟨by rw [HE.out]; decide, by rw [HE.out]; rfl, Below.refl _ _⟩
  have htk : tkE b n = if anyBit b n (8 * m) then 21 else 0 := by unfold tkE; rw [if_neg (by rw [← hm]; exact hLm), hm]
  have HTK := Lib.hid htk
  have hLI : (m : Int) ≤ (b.length : Int) := by omega
  have hmL : m ≤ b.length := by omega
  clear hm htk hLm
  go_enter Try.func36, Try.ntmps36
  go_wp2_with fail
  rw [hmI]
  rw [show decide (b.length < m) = false from decide_eq_false (by omega)]
  go_loopw [8, 9] (fun v8 v9 wr => ∃ (k q : Nat), k ≤ 8 * m ∧ v9 = .int .i64 k ∧ q = min k n ∧ (∀ j, n ≤ j → j < k → bitAt b j = false) ∧ wr.ownsRow w.heap.size 4 1 v8 q (bools (blN b q)) ∧ Below w.heap.size w wr) (fun _ v9 _ => 8 * m - (intOf v9).toNat)
  case atStart => exact ⟨0, 0, by omega, rfl, by simp, fun j h1 h2 => by omega, World.ownsRow_nil _ _ _ _, Below.refl _ _⟩
  case round =>
    obtain ⟨k, q, hk, rfl, hq, hno, hown, hbel⟩ := hrel
    have HNO := Lib.hid hno
    have hzr := hbel.size
    clear hno
    by_cases hlt : k < 8 * m
    case neg =>
      have hqn : q = n := by omega
      have hge : 8 * (m : Int) ≤ (k : Int) := by omega
      subst hqn
      have he : tkE b q = 0 := by
        rw [HTK.out, if_neg]
        rw [anyBit_iff]
        rintro ⟨j, h1, h2, h3⟩
        rw [HNO.out j h1 (by omega)] at h3; cases h3
      have HE := Lib.hid he
      obtain ⟨A8, c8, rfl, _⟩ := own_form hown
      clear he hq
      go_wp2_with fail
      try rw [hmI]
      go_ret3
      exact .inr ⟨HE.out, A8, c8, by rw [← HM.out]; rfl, hown, hbel⟩
    have hib : k / 8 < b.length := by omega
    obtain ⟨bb, oo, rfl, hbb, _⟩ := rd_cell hr hib
    obtain ⟨X, hX, hcell0, hbit⟩ := bit_facts hr k hib
    have hcell := (hbel.cell (p := ⟨bb, oo + k / 8, none⟩) (by show bb < _; omega)).trans hcell0
    have hbs := blN_snoc b q
    obtain ⟨bi, hbi⟩ : ∃ x, x = bitAt b k := ⟨_, rfl⟩
    rw [← hbi] at hbit
    obtain ⟨j, hj⟩ : ∃ j, j = k / 8 := ⟨_, rfl⟩
    rw [← hj] at hcell hib
    have hjI : (k : Int) / 8 = (j : Int) := by omega
    have hjLI : (j : Int) < (b.length : Int) := by omega
    have hltI : (k : Int) < 8 * (m : Int) := by omega
    have HBI := Lib.hid hbi
    have HBS := Lib.hid hbs
    clear hbi hj hbs hcell0
    by_cases hkn : k < n
    · have hqk : q = k := by omega
      have hknI : (k : Int) < (n : Int) := by omega
      subst hqk
      clear hq
      go_wp2_with (at_builtin; refine wpList_app El_boolc rfl _ _ rfl (hown.alloc _) rfl rfl (by exact rd_one _ _ _ _ _ rfl (Nat.lt_add_one _)) rfl (by intro u hu; simp at hu; subst hu; rfl) (by unfold maxLen; omega) (by omega) (by simp; omega) ?_; intro x8 w8 g8 hg8 _; have hb8 : Below w.heap.size w w8 := (hbel.alloc hzr _).trans (own_below (hown.alloc _) hg8 (by simp; omega)))
      go_roundw
      case rel =>
        refine ⟨q + 1, q + 1, by omega, by go_num, by omega, fun i h1 h2 => by omega, ?_, hb8⟩
        rw [HBS.out, ← HBI.out]
        unfold bools
        rw [List.map_append]
        exact g8
      case measure => simp [intOf]; omega
    · have hknI : (n : Int) ≤ (k : Int) := by omega
      have hqn : q = n := by omega
      subst hqn
      clear hq
      cases bi
      · go_wp2_with fail
        go_roundw
        case rel =>
          refine ⟨k + 1, q, by omega, by go_num, by omega, fun i h1 h2 => ?_, hown, hbel⟩
          by_cases hik : i = k
          · rw [hik]; exact HBI.out.symm
          · exact HNO.out i h1 (by omega)
        case measure => simp [intOf]; omega
      · have he : tkE b q = 21 := by
          rw [HTK.out, if_pos ((anyBit_iff _ _ _).2 ⟨k, by omega, hlt, HBI.out.symm⟩)]
        have HE := Lib.hid he
        clear he
        go_wp2_with fail
        go_ret3
        exact .inl ⟨by rw [HE.out]; decide, by rw [HE.out]; rfl, hbel⟩
end Go.Proofs.Ytiijnfakphhbeaa

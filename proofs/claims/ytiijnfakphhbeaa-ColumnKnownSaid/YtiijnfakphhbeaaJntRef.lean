/- The walks of the reference of layer 5: Changes, Put, Same answer what the plain functions say. For rows of at most 2^32. -/
import Derived.Test.YtiijnfakphhbeaaJntP2
import Derived.Test.YtiijnfakphhbeaaJntGet
import Derived.Test.YtiijnfakphhbeaaBas
namespace Go.Proofs.Ytiijnfakphhbeaa.In
open Go.RowKit
set_option linter.unusedVariables false
set_option linter.unusedSimpArgs false

abbrev ucells (l : List Int) : List Value := l.map fun c => Value.int .u64 (toU c)
theorem Try.infoU64 : (Try.prog.info? 74).map (fun i => (i.zero, i.size, i.bytes)) = some (some (.int .u64 0), 1, 8) := by kernel_rfl
theorem El_u64 : El Try.prog 72 74 1 8 := el_of Try.underlying72 Try.infoU64 rfl (by decide)
theorem ucells_snoc (l : List Int) (c : Int) : ucells (l ++ [c]) = ucells l ++ [.int .u64 (toU c)] := by simp [ucells]

set_option maxHeartbeats 2000000 in
set_option maxRecDepth 100000 in
theorem rChanges_any (B : Nat) (A : Option Addr) (c : Nat) (l : List Int) (w : World) (h : Rd w B A (num l)) (hB : B ≤ w.heap.size) (hl : l.length ≤ 4294967296) :
    Calls Try.prog 48 #[.slice A l.length c] w fun e w' => ∃ A' c', e = .returned (.slice A' l.length c') ∧ w'.ownsRow w.heap.size 74 1 (.slice A' l.length c') l.length (ucells (chg 0 0 l)) ∧ Below w.heap.size w w' := by
  go_enter Try.func48, Try.ntmps48
  go_wp2
  go_loopw [3, 4] (fun v3 v4 wr => ∃ k : Nat, k ≤ l.length ∧ v4 = .int .i64 k ∧ wr.ownsRow w.heap.size 74 1 v3 k (ucells (chg 0 0 (l.take k))) ∧ Below w.heap.size w wr)
    (fun _ v4 _ => l.length - (intOf v4).toNat)
  case atStart => exact ⟨0, by omega, rfl, World.ownsRow_nil _ _ _ _, Below.refl _ _⟩
  case round =>
    obtain ⟨k, hk, rfl, hown, hnx⟩ := hrel
    obtain ⟨A3, c3, rfl, hc3⟩ := own_form hown
    by_cases hlt : k < l.length
    · obtain ⟨b, o, rfl, hb, hcell⟩ := h.at (k := k) (by simpa using hlt)
      have hcl : ∀ j (hj : j < l.length), wr.cell? ⟨b, o + j, none⟩ = some (.int .i64 l[j]) := fun j hj => (hnx.cell (p := ⟨b, o + j, none⟩) (by show b < _; omega)).trans (hcell j _ (by simp [hj]))
      have hck := hcl k hlt
      obtain ⟨x, hx⟩ : ∃ x, x = l[k] := ⟨_, rfl⟩
      rw [← hx] at hck
      have hts : chg 0 0 (l.take (k + 1)) = chg 0 0 (l.take k) ++ [wrap64 (wrap64 (x - (cst 0 0 (l.take k)).1) - (cst 0 0 (l.take k)).2)] := by
        rw [take_snoc l k hlt, chg_snoc, hx]
      have HT := Lib.hid hts
      have HC := Lib.hid hcl
      clear hts hcl hcell hx
      have hwu := wrapU
      rcases Nat.lt_or_ge k 2 with h2 | h2
      · rcases Nat.lt_or_ge k 1 with h1 | h1
        · have hk0 : k = 0 := by omega
          subst hk0
          rw [Nat.add_zero] at hck
          go_wp2_with (at_builtin; refine wpList_app El_u64 rfl _ _ rfl (hown.alloc _) rfl rfl (by exact rd_one _ _ _ _ _ rfl (Nat.lt_add_one _)) rfl one_int (by unfold maxLen; omega) (by omega) (by have := hnx.size; simp; omega) ?_; intro v2 w2 hown2 hg2 _)
          have hb2 : Below w.heap.size w w2 := (hnx.alloc hnx.size _).trans (own_below (hown.alloc _) hg2 (by have := hnx.size; simp; omega))
          go_roundw
          case rel =>
            refine ⟨1, by omega, by go_num, ?_, hb2⟩
            have := HT.out
            rw [Nat.zero_add] at this
            rw [this, ucells_snoc, List.take_zero, show cst 0 0 [] = (0, 0) from rfl, step0]
            have e : toU (toU (toU x)) = toU x := by unfold toU; omega
            rw [e, List.take_zero] at hown2
            simpa using hown2
          case measure => simp [intOf]; omega
        · have hk1 : k = 1 := by omega
          subst hk1
          have hc0 := HC.out 0 (by omega)
          obtain ⟨y, hy⟩ : ∃ y, y = l[0] := ⟨_, rfl⟩
          rw [← hy, Nat.add_zero] at hc0
          have hcs : cst 0 0 (l.take 1) = (y, wrap64 (y - 0)) := by
            rw [show (1 : Nat) = 0 + 1 from rfl, take_snoc l 0 (by omega), cst_snoc, hy]; rfl
          have HS := Lib.hid hcs
          clear hcs hy
          go_wp2_with (at_builtin; refine wpList_app El_u64 rfl _ _ rfl (hown.alloc _) rfl rfl (by exact rd_one _ _ _ _ _ rfl (Nat.lt_add_one _)) rfl one_int (by unfold maxLen; omega) (by omega) (by have := hnx.size; simp; omega) ?_; intro v2 w2 hown2 hg2 _)
          have hb2 : Below w.heap.size w w2 := (hnx.alloc hnx.size _).trans (own_below (hown.alloc _) hg2 (by have := hnx.size; simp; omega))
          go_roundw
          case rel =>
            refine ⟨1 + 1, by omega, by go_num, ?_, hb2⟩
            rw [HT.out, ucells_snoc, HS.out, step1]
            simpa using hown2
          case measure => simp [intOf]; omega
      · obtain ⟨p, rfl⟩ : ∃ p, k = p + 2 := ⟨k - 2, by omega⟩
        have hc0 := HC.out p (by omega)
        have hc1 := HC.out (p + 1) (by omega)
        obtain ⟨y, hy⟩ : ∃ y, y = l[p + 1] := ⟨_, rfl⟩
        obtain ⟨z, hz⟩ : ∃ y, y = l[p] := ⟨_, rfl⟩
        rw [← hy] at hc1
        rw [← hz] at hc0
        have hcs : cst 0 0 (l.take (p + 2)) = (y, wrap64 (y - z)) := by
          rw [take_snoc l (p + 1) (by omega), cst_snoc, take_snoc l p (by omega), cst_snoc, hy, hz]
        have HS := Lib.hid hcs
        clear hcs hy hz h2
        go_wp2_with (at_builtin; refine wpList_app El_u64 rfl _ _ rfl (hown.alloc _) rfl rfl (by exact rd_one _ _ _ _ _ rfl (Nat.lt_add_one _)) rfl one_int (by unfold maxLen; omega) (by omega) (by have := hnx.size; simp; omega) ?_; intro v2 w2 hown2 hg2 _)
        have hb2 : Below w.heap.size w w2 := (hnx.alloc hnx.size _).trans (own_below (hown.alloc _) hg2 (by have := hnx.size; simp; omega))
        go_roundw
        case rel =>
          refine ⟨p + 2 + 1, by omega, by go_num, ?_, hb2⟩
          rw [HT.out, ucells_snoc, HS.out, step2]
          simpa using hown2
        case measure => simp [intOf]; omega
    · have hkk : k = l.length := by omega
      subst hkk
      rw [List.take_length] at hown
      go_wp2
      go_ret
      exact ⟨_, _, rfl, hown, hnx⟩
end Go.Proofs.Ytiijnfakphhbeaa.In

/- The walks of slices.Grow, slices.Concat over bytes (layer 6). -/
import Derived.Test.YtiijnfakphhbeaaCol7
import Derived.Test.YtiijnfakphhbeaaColP3
import Derived.Lib.AppendZerosOnto
namespace Go.Proofs.Ytiijnfakphhbeaa
open Go.RowKit Go.Maps
set_option linter.unusedVariables false
set_option linter.unusedSimpArgs false

set_option maxHeartbeats 2000000 in
set_option maxRecDepth 100000 in
/-- slices.Grow of no slice -/
theorem grow_any (n : Nat) (hn : n ≤ 4611686018427) (w : World) :
    Calls Try.prog 70 #[.slice none 0 0, .int .i64 (n : Int)] w fun e w' => ∃ v, e = .returned v ∧ w'.ownsRow w.heap.size 5 1 v 0 [] ∧ Below w.heap.size w w' := by
  by_cases h0 : n = 0
  · subst h0
    go_enter Try.func70, Try.ntmps70
    go_wp2
    go_ret
    exact ⟨_, rfl, World.ownsRow_nil _ _ _ _, Below.refl _ _⟩
  · obtain ⟨i0, hi, hz0, hz1, hz2⟩ := info_parts Try.infoU8
    have hck : 0 + n = n := Nat.zero_add n
    have hrz : ∀ ty, (Builtin.append_ #[24, 3] ty #[.slice none 0 0, .int .i64 (n : Int)]).run Try.prog w =
        .ok (.slice (some ⟨w.heap.size, 0, none⟩) n (grownCap w n 0 5)) (w.drew.alloc (.cells (#[] ++ Builtin.zeroCells (Value.int .u8 0).cells n ++ Builtin.zeroCells (Value.int .u8 0).cells (grownCap w n 0 5 - n)) 5)) := fun ty => by
      have h := Lib.run_append_grow_zeros w 24 3 ty 5 i0 (.int .u8 0) .i64 .i64 Try.underlying24 Try.underlying3 hi hz0 none 0 0 [] (run_firstCells_none w.drew i0.size 0 0 0) n (by omega) (by omega) (by omega) (by omega) (by rw [hz2]; omega) (by rw [hck]; exact growslice_fits (by omega) (by rw [hz2]; omega))
      rw [hck] at h
      exact h
    have hge : n ≤ grownCap w n 0 5 := grownCap_ge w _ _ _
    have hle := grownCap_le_maxLen w n 0 5 (by unfold maxLen; omega)
    obtain ⟨G, hG⟩ : ∃ G, G = grownCap w n 0 5 := ⟨_, rfl⟩
    rw [← hG] at hrz hge hle
    obtain ⟨cs, hcs⟩ : ∃ cs, cs = (#[] ++ Builtin.zeroCells (Value.int .u8 0).cells n ++ Builtin.zeroCells (Value.int .u8 0).cells (G - n) : Array Value) := ⟨_, rfl⟩
    rw [← hcs] at hrz
    have hsz : cs.size = G * 1 := by rw [hcs]; simp [Value.cells, size_zeroCells]; omega
    have hle2 : G ≤ 9223372036854775807 := by unfold maxLen at hle; omega
    have h1 : ¬ ((n : Int) < 0) := by omega
    have h4 : 0 < (n : Int) := by omega
    have HL := Lib.hid hle
    clear hG hcs hle hck hi hz0 hz1 hz2 h0
    have HRZ := Lib.hid hrz
    clear hrz
    go_enter Try.func70, Try.ntmps70
    go_wp2_with (at_builtin; refine Lib.wpList_append_run _ rfl _ _ _ _ rfl _ _ rfl rfl _ _ (HRZ.out _) ?_)
    all_goals go_ret
    exact ⟨_, rfl, ⟨rfl, Or.inr ⟨_, _, _, rfl, Nat.le_refl _, (MapKept.heap_alloc _ _).1, Nat.zero_le _, HL.out, hsz, by simp⟩⟩, ((Below.refl _ w).drew).alloc (Nat.le_refl _) _⟩

/-- a slice of bytes as a value -/
abbrev slB (s : Option Addr × Nat × List UInt8) : Value := .slice s.1 s.2.2.length s.2.1
def bsB (l : List (Option Addr × Nat × List UInt8)) : List UInt8 := l.flatMap (·.2.2)
theorem bsB_snoc {l : List (Option Addr × Nat × List UInt8)} {k : Nat} {s : Option Addr × Nat × List UInt8} (h : l[k]? = some s) : bsB (l.take (k + 1)) = bsB (l.take k) ++ s.2.2 := by
  unfold bsB
  rw [List.take_add_one, h, List.flatMap_append]; simp
theorem bsB_le (l : List (Option Addr × Nat × List UInt8)) (k : Nat) : (bsB (l.take k)).length ≤ (bsB l).length := by
  have h := congrArg (fun l => (bsB l).length) (List.take_append_drop k l)
  simp only [bsB, List.flatMap_append, List.length_append] at h ⊢
  omega

set_option maxHeartbeats 2000000 in
set_option maxRecDepth 100000 in
theorem concat_any (A : Option Addr) (c : Nat) (l : List (Option Addr × Nat × List UInt8)) (w : World) (hr : Rd w w.heap.size A (l.map slB)) (hs : ∀ s ∈ l, Rd w w.heap.size s.1 (cells s.2.2)) (hl : l.length ≤ 100) (ht : (bsB l).length ≤ 4611686018) :
    Calls Try.prog 63 #[.slice A l.length c] w (RetB w (bsB l)) := by
  have HR := Lib.hid hr
  have HS := Lib.hid hs
  clear hr hs
  go_enter Try.func63, Try.ntmps63
  go_wp2
  go_loopw [3, 11] (fun v3 v11 wr => ∃ k : Nat, k ≤ l.length ∧ v11 = .int .i64 k ∧ v3 = .int .i64 ((bsB (l.take k)).length : Nat) ∧ w = wr) (fun _ v11 _ => l.length - (intOf v11).toNat)
  case atStart => exact ⟨0, by omega, rfl, rfl, rfl⟩
  case round =>
    obtain ⟨k, hk, rfl, rfl, rfl⟩ := hrel
    by_cases hlt : k < l.length
    case pos =>
      obtain ⟨s, hs⟩ : ∃ s, l[k]? = some s := ⟨_, List.getElem?_eq_getElem hlt⟩
      have hkI : (k : Int) < (l.length : Int) := by omega
      obtain ⟨gb, go, rfl, hgb, hat⟩ := HR.out.at (k := k) (by simpa using hlt)
      have q := hat k (slB s) (by rw [List.getElem?_map, hs]; rfl)
      have hsn := bsB_snoc hs
      have hle := bsB_le l (k + 1)
      rw [hsn, List.length_append] at hle
      obtain ⟨m, hm⟩ : ∃ m, m = (bsB (l.take k)).length := ⟨_, rfl⟩
      rw [← hm] at hle ⊢
      have HM := Lib.hid hm
      have HSN := Lib.hid hsn
      have hneg : ¬ ((m : Int) + (s.2.2.length : Int) < 0) := by omega
      clear hm hsn hs hat
      go_wp2_with fail
      go_roundw
      case rel => exact ⟨k + 1, by omega, by go_num, by rw [HSN.out, List.length_append, ← HM.out]; go_num, by trivial⟩
      case measure => simp [intOf]; omega
    have hkk : k = l.length := by omega
    have hge : (l.length : Int) ≤ (k : Int) := by omega
    rw [hkk, List.take_length]
    have hG := grow_any (bsB l).length (by omega) w
    have HG := Lib.hid hG
    clear hG hkk
    go_wp2_with fail
    refine HG.out.mono ?_; rintro e w1 ⟨v1, rfl, hown1, hb1⟩
    go_wp2_with fail
    go_loopw [6, 27] (fun v6 v27 wr => ∃ k : Nat, k ≤ l.length ∧ v27 = .int .i64 k ∧ wr.ownsRow w.heap.size 5 1 v6 (bsB (l.take k)).length (cells (bsB (l.take k))) ∧ Below w.heap.size w wr) (fun _ v27 _ => l.length - (intOf v27).toNat)
    case atStart => exact ⟨0, by omega, rfl, hown1, hb1⟩
    case round =>
      obtain ⟨k, hk, rfl, hown, hbel⟩ := hrel
      by_cases hlt : k < l.length
      case neg =>
        have hkk : k = l.length := by omega
        rw [hkk, List.take_length] at hown
        clear hkk hown1 hb1
        go_wp2_with fail
        go_ret
        exact retB_of hown hbel
      obtain ⟨s, hs⟩ : ∃ s, l[k]? = some s := ⟨_, List.getElem?_eq_getElem hlt⟩
      have hkI : (k : Int) < (l.length : Int) := by omega
      obtain ⟨gb, go, rfl, hgb, hat⟩ := HR.out.at (k := k) (by simpa using hlt)
      have q0 := hat k (slB s) (by rw [List.getElem?_map, hs]; rfl)
      have q := (hbel.cell (p := ⟨gb, go + k, none⟩) hgb).trans q0
      have hrs := (HS.out s (List.mem_of_getElem? hs)).below hbel
      have hsn := bsB_snoc hs
      have hle := bsB_le l (k + 1)
      rw [hsn, List.length_append] at hle
      have HSN := Lib.hid hsn
      clear hsn hs hat q0 hown1 hb1
      have hcl : (cells s.2.2).length = s.2.2.length * 1 := by simp
      go_wp2_with (at_builtin; refine wpList_app El_u8 rfl _ _ rfl hown rfl rfl hrs hcl (cells_one _) (by unfold maxLen; omega) (by omega) hbel.size ?_; intro v4 w4 hown4 hg4 _)
      go_roundw
      case rel => exact ⟨k + 1, by omega, by go_num, by rw [HSN.out, List.length_append, cells_append]; exact hown4, hbel.trans (own_below hown hg4 hbel.size)⟩
      case measure => simp [intOf]; omega
end Go.Proofs.Ytiijnfakphhbeaa

/- The walks of slices.Grow (of no slice), Concat, Equal over spans, and of spans.Has (layer 10). For at most 10^9 spans. -/
import Derived.Test.YtiohdacbnigpkaaSet3
import Derived.Lib.AppendZerosOnto
namespace Go.Proofs.Ytiohdacbnigpkaa
open Go.RowKit Go.Maps
set_option linter.unusedVariables false
set_option linter.unusedSimpArgs false

set_option maxHeartbeats 2000000 in
set_option maxRecDepth 100000 in
/-- slices.Grow of no slice -/
theorem grow_any (n : Nat) (hn : n ≤ 1000000000) (w : World) :
    Calls Try.prog 63 #[.slice none 0 0, .int .i64 (n : Int)] w fun e w' => ∃ v, e = .returned v ∧ w'.ownsRow w.heap.size 27 2 v 0 [] ∧ Below w.heap.size w w' := by
  by_cases h0 : n = 0
  · subst h0
    go_enter Try.func63, Try.ntmps63
    go_wp2
    go_ret
    exact ⟨_, rfl, World.ownsRow_nil _ _ _ _, Below.refl _ _⟩
  · obtain ⟨by_, hinfo, hby⟩ := Try.infoSpan
    obtain ⟨i0, hi, hz0, hz1, hz2⟩ := info_parts hinfo
    have hnb : n * by_ ≤ 1000000000 * 64 := Nat.mul_le_mul hn hby
    have hck : 0 + n = n := Nat.zero_add n
    have hrz : ∀ ty, (Builtin.append_ #[22, 3] ty #[.slice none 0 0, .int .i64 (n : Int)]).run Try.prog w =
        .ok (.slice (some ⟨w.heap.size, 0, none⟩) n (grownCap w n 0 27)) (w.drew.alloc (.cells (#[] ++ Builtin.zeroCells (Value.agg #[.int .i64 0, .int .i64 0]).cells n ++ Builtin.zeroCells (Value.agg #[.int .i64 0, .int .i64 0]).cells (grownCap w n 0 27 - n)) 27)) := fun ty => by
      have h := Lib.run_append_grow_zeros w 22 3 ty 27 i0 (.agg #[.int .i64 0, .int .i64 0]) .i64 .i64 Try.underlying22 Try.underlying3 hi hz0 none 0 0 [] (run_firstCells_none w.drew i0.size 0 0 0) n (by omega) (by omega) (by omega) (by omega) (by rw [hz2]; omega) (by rw [hck]; exact growslice_fits (by omega) (by rw [hz2]; omega))
      rw [hck] at h
      exact h
    have hge : n ≤ grownCap w n 0 27 := grownCap_ge w _ _ _
    have hle := grownCap_le_maxLen w n 0 27 (by unfold maxLen; omega)
    obtain ⟨G, hG⟩ : ∃ G, G = grownCap w n 0 27 := ⟨_, rfl⟩
    rw [← hG] at hrz hge hle
    obtain ⟨cs, hcs⟩ : ∃ cs, cs = (#[] ++ Builtin.zeroCells (Value.agg #[.int .i64 0, .int .i64 0]).cells n ++ Builtin.zeroCells (Value.agg #[.int .i64 0, .int .i64 0]).cells (G - n) : Array Value) := ⟨_, rfl⟩
    rw [← hcs] at hrz
    have hsz : cs.size = G * 2 := by rw [hcs]; simp [Value.cells, size_zeroCells]; omega
    have hle2 : G ≤ 9223372036854775807 := by unfold maxLen at hle; omega
    have h1 : ¬ ((n : Int) < 0) := by omega
    have h4 : 0 < (n : Int) := by omega
    have HL := Lib.hid hle
    clear hG hcs hle hck hi hz0 hz1 hz2 h0
    have HRZ := Lib.hid hrz
    clear hrz
    go_enter Try.func63, Try.ntmps63
    go_wp2_with (at_builtin; refine Lib.wpList_append_run _ rfl _ _ _ _ rfl _ _ rfl rfl _ _ (HRZ.out _) ?_)
    all_goals go_ret
    exact ⟨_, rfl, ⟨rfl, Or.inr ⟨_, _, _, rfl, Nat.le_refl _, (MapKept.heap_alloc _ _).1, Nat.zero_le _, HL.out, hsz, by simp⟩⟩, ((Below.refl _ w).drew).alloc (Nat.le_refl _) _⟩

/-- a slice of bytes as a value -/
abbrev slS (s : Option Addr × Nat × List S2) : Value := .slice s.1 s.2.2.length s.2.1
def bsS (l : List (Option Addr × Nat × List S2)) : List S2 := l.flatMap (·.2.2)
theorem bsS_snoc {l : List (Option Addr × Nat × List S2)} {k : Nat} {s : Option Addr × Nat × List S2} (h : l[k]? = some s) : bsS (l.take (k + 1)) = bsS (l.take k) ++ s.2.2 := by
  unfold bsS
  rw [List.take_add_one, h, List.flatMap_append]; simp
theorem bsS_le (l : List (Option Addr × Nat × List S2)) (k : Nat) : (bsS (l.take k)).length ≤ (bsS l).length := by
  have h := congrArg (fun l => (bsS l).length) (List.take_append_drop k l)
  simp only [bsS, List.flatMap_append, List.length_append] at h ⊢
  omega

set_option maxHeartbeats 2000000 in
set_option maxRecDepth 100000 in
theorem concat_any (A : Option Addr) (c : Nat) (l : List (Option Addr × Nat × List S2)) (w : World) (hr : Rd w w.heap.size A (l.map slS)) (hs : ∀ s ∈ l, Rd w w.heap.size s.1 (scells s.2.2)) (hl : l.length ≤ 100) (ht : (bsS l).length ≤ 1000000000) :
    Calls Try.prog 44 #[.slice A l.length c] w (RetSs w (bsS l)) := by
  obtain ⟨by_, HEL, hby⟩ := El_span
  have HR := Lib.hid hr
  have HS := Lib.hid hs
  clear hr hs
  go_enter Try.func44, Try.ntmps44
  go_wp2
  go_loopw [3, 11] (fun v3 v11 wr => ∃ k : Nat, k ≤ l.length ∧ v11 = .int .i64 k ∧ v3 = .int .i64 ((bsS (l.take k)).length : Nat) ∧ w = wr) (fun _ v11 _ => l.length - (intOf v11).toNat)
  case atStart => exact ⟨0, by omega, rfl, rfl, rfl⟩
  case round =>
    obtain ⟨k, hk, rfl, rfl, rfl⟩ := hrel
    by_cases hlt : k < l.length
    case pos =>
      obtain ⟨s, hs⟩ : ∃ s, l[k]? = some s := ⟨_, List.getElem?_eq_getElem hlt⟩
      have hkI : (k : Int) < (l.length : Int) := by omega
      obtain ⟨gb, go, rfl, hgb, hat⟩ := HR.out.at (k := k) (by simpa using hlt)
      have q := hat k (slS s) (by rw [List.getElem?_map, hs]; rfl)
      have hsn := bsS_snoc hs
      have hle := bsS_le l (k + 1)
      rw [hsn, List.length_append] at hle
      obtain ⟨m, hm⟩ : ∃ m, m = (bsS (l.take k)).length := ⟨_, rfl⟩
      rw [← hm] at hle ⊢
      have HM := Lib.hid hm
      have HSN := Lib.hid hsn
      have hneg : ¬ ((m : Int) + (s.2.2.length : Int) < 0) := by omega
      clear hm hsn hs hat
      go_wp2_with fail
      go_roundw
      case rel => exact ⟨k + 1, by omega, by go_num, by rw [HSN.out, List.length_append, ← HM.out]; go_num, by trivial⟩
      case measure => simp [intOf]; omega
    have hkk : k = l.length := by omega
    have hge : (l.length : Int) ≤ (k : Int) := by omega
    rw [hkk, List.take_length]
    have hG := grow_any (bsS l).length (by omega) w
    have HG := Lib.hid hG
    clear hG hkk
    go_wp2_with fail
    refine HG.out.mono ?_; rintro e w1 ⟨v1, rfl, hown1, hb1⟩
    go_wp2_with fail
    go_loopw [6, 27] (fun v6 v27 wr => ∃ k : Nat, k ≤ l.length ∧ v27 = .int .i64 k ∧ wr.ownsRow w.heap.size 27 2 v6 (bsS (l.take k)).length (scells (bsS (l.take k))) ∧ Below w.heap.size w wr) (fun _ v27 _ => l.length - (intOf v27).toNat)
    case atStart => exact ⟨0, by omega, rfl, hown1, hb1⟩
    case round =>
      obtain ⟨k, hk, rfl, hown, hbel⟩ := hrel
      by_cases hlt : k < l.length
      case neg =>
        have hkk : k = l.length := by omega
        rw [hkk, List.take_length] at hown
        clear hkk hown1 hb1
        go_wp2_with fail
        go_ret
        exact retSs_of hown hbel
      obtain ⟨s, hs⟩ : ∃ s, l[k]? = some s := ⟨_, List.getElem?_eq_getElem hlt⟩
      have hkI : (k : Int) < (l.length : Int) := by omega
      obtain ⟨gb, go, rfl, hgb, hat⟩ := HR.out.at (k := k) (by simpa using hlt)
      have q0 := hat k (slS s) (by rw [List.getElem?_map, hs]; rfl)
      have q := (hbel.cell (p := ⟨gb, go + k, none⟩) hgb).trans q0
      have hrs := (HS.out s (List.mem_of_getElem? hs)).below hbel
      have hsn := bsS_snoc hs
      have hle := bsS_le l (k + 1)
      rw [hsn, List.length_append] at hle
      have HSN := Lib.hid hsn
      clear hsn hs hat q0 hown1 hb1
      have hcl : (scells s.2.2).length = s.2.2.length * 2 := scells_length _
      go_wp2_with (at_builtin; refine wpList_app HEL rfl _ _ rfl hown rfl rfl hrs hcl (scells_one _) (by unfold maxLen; omega) (by have : ((bsS (l.take k)).length + s.2.2.length) * by_ ≤ 1000000000 * 64 := Nat.mul_le_mul (by omega) hby; omega) hbel.size ?_; intro v4 w4 hown4 hg4 _)
      go_roundw
      case rel => exact ⟨k + 1, by omega, by go_num, by rw [HSN.out, List.length_append, scells_append]; exact hown4, hbel.trans (own_below hown hg4 hbel.size)⟩
      case measure => simp [intOf]; omega
end Go.Proofs.Ytiohdacbnigpkaa

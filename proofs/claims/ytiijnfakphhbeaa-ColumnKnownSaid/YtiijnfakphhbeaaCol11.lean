/- The table column.ways, and what it tells of a kind (layer 6). -/
import Derived.Test.YtiijnfakphhbeaaCol10
namespace Go.Proofs.Ytiijnfakphhbeaa
open Go.RowKit Go.Maps
set_option linter.unusedVariables false
set_option linter.unusedSimpArgs false

abbrev ctab : DataW Unit := .map [(tk 1, wd 41 42), (tk 2, wd 43 44), (tk 3, wd 45 46)]
theorem zeroCWay (w : World) : (zeroValue 51).run Try.prog w = .ok (.agg #[.nilFunc, .nilFunc]) w := by kernel_rfl

set_option maxRecDepth 100000 in
theorem cways_any (w : World) : Calls Try.prog 23 #[] w fun e w' => e = .returned (.map (some w.heap.size)) ∧ w'.ownsMap Try.prog 5 wayE w.heap.size 3 ctab ∧ Below w.heap.size w w' := by
  have hmm := @run_makeMap Try.prog
  go_enter Try.func23, Try.ntmps23
  have hown0 := World.ownsMap_made w Try.prog 5 wayE
  go_wp2_with (first
    | (refine wpList_insert_own _ rfl _ _ _ 53 rfl 5 51 law8 Try.underlying53 wayE w.heap.size 2 _ rfl hown2 (by unfold maxLen; omega) _ _ (tk 3) rfl rfl (key8 3) (wd 45 46) [] rfl ?_; intro w3 hown3 hg3)
    | (refine wpList_insert_own _ rfl _ _ _ 53 rfl 5 51 law8 Try.underlying53 wayE w.heap.size 1 _ rfl hown1 (by unfold maxLen; omega) _ _ (tk 2) rfl rfl (key8 2) (wd 43 44) [] rfl ?_; intro w2 hown2 hg2)
    | (refine wpList_insert_own _ rfl _ _ _ 53 rfl 5 51 law8 Try.underlying53 wayE w.heap.size 0 _ rfl hown0 (by unfold maxLen; omega) _ _ (tk 1) rfl rfl (key8 1) (wd 41 42) [] rfl ?_; intro w1 hown1 hg1))
  go_ret
  have hb : Below w.heap.size w w3 := ((((Below.refl _ w).alloc (Nat.le_refl _) _).grown hg1 (by simp) (fun k hk => by simp at hk; omega)).grown hg2 (by have := hg1.size; simp at this; omega) (fun k hk => by simp at hk; omega)).grown hg3 (by have := hg1.size; have := hg2.size; simp at *; omega) (fun k hk => by simp at hk; omega)
  exact ⟨rfl, hown3, hb⟩

/-- the two functions of a kind -/
def cputF (t : Nat) : Value := if t = 1 then .func (.func 41) #[] #[] else if t = 2 then .func (.func 43) #[] #[] else if t = 3 then .func (.func 45) #[] #[] else .nilFunc
def cgetF (t : Nat) : Value := if t = 1 then .func (.func 42) #[] #[] else if t = 2 then .func (.func 44) #[] #[] else if t = 3 then .func (.func 46) #[] #[] else .nilFunc

theorem wayE_nil {v : Value} {ps : List MemPlace} (h : wayE v = some (zway, ps)) : v = .agg #[.nilFunc, .nilFunc] := by
  unfold wayE at h
  split at h
  · rename_i a b
    split at h
    · rename_i x y hx hy
      simp only [Option.some.injEq, Prod.mk.injEq, DataW.agg.injEq, List.cons.injEq, and_true] at h
      obtain ⟨⟨rfl, rfl⟩, _⟩ := h
      have nil : ∀ {v : Value}, fnD v = some (.lit (.int .i64 (-1))) → v = .nilFunc := fun {v} h => by
        unfold fnD at h
        split at h
        · split at h
          · simp at h
          · cases h
        · rfl
        · cases h
      rw [nil hx, nil hy]
    · cases h
  · cases h

theorem same_tk (a b : Int) : (tk a).sameKey (tk b) = decide (a = b) := by simp [Lit.sameKey]
theorem ctab_has (t : UInt8) : Maps.has ctab (tk (t.toNat : Int)) = tyok t := by
  unfold Maps.has tyok
  simp only [List.any_cons, List.any_nil, Bool.or_false, same_tk]
  by_cases h1 : t.toNat = 1
  · simp [h1]
  by_cases h2 : t.toNat = 2
  · simp [h2]
  by_cases h3 : t.toNat = 3
  · simp [h3]
  simp only [h1, h2, h3, decide_false, Bool.or_false]
  rw [decide_eq_false (by omega), decide_eq_false (by omega), decide_eq_false (by omega)]; rfl
theorem ctab_at (t : UInt8) : ctab.atKey (tk (t.toNat : Int)) zway = if t.toNat = 1 then wd 41 42 else if t.toNat = 2 then wd 43 44 else if t.toNat = 3 then wd 45 46 else zway := by
  by_cases h1 : t.toNat = 1
  · rw [h1]; rfl
  by_cases h2 : t.toNat = 2
  · rw [h2]; rfl
  by_cases h3 : t.toNat = 3
  · rw [h3]; rfl
  rw [if_neg h1, if_neg h2, if_neg h3]
  have e1 : decide ((1 : Int) = (t.toNat : Int)) = false := decide_eq_false (by omega)
  have e2 : decide ((2 : Int) = (t.toNat : Int)) = false := decide_eq_false (by omega)
  have e3 : decide ((3 : Int) = (t.toNat : Int)) = false := decide_eq_false (by omega)
  simp only [DataW.atKey, List.find?_cons, List.find?_nil, same_tk, e1, e2, e3]

theorem clook {w : World} {b : Nat} (h : w.ownsMap Try.prog 5 wayE b 3 ctab) (t : UInt8) :
    (Instr.lookup 53 (.map (some b)) (b8 t) true).run Try.prog w = .ok (.tuple #[.agg #[cputF t.toNat, cgetF t.toNat], .bool (tyok t)]) w := by
  obtain ⟨v, ps, hrun, hv⟩ := h.look_ok law8 Try.underlying53 (zeroCWay w) (show wayE _ = some (zway, []) from rfl) (key8 t)
  rw [ctab_at] at hv
  rw [ctab_has] at hrun
  rw [hrun]
  have e : v = .agg #[cputF t.toNat, cgetF t.toNat] := by
    unfold cputF cgetF
    split at hv
    · rename_i h; simp only [h, if_pos]; exact wayE_inv hv
    split at hv
    · rename_i h0 h; simp only [h, if_pos]; exact wayE_inv hv
    split at hv
    · rename_i h0 h1 h; simp only [h, if_pos]; exact wayE_inv hv
    · rename_i h0 h1 h2; simp only [if_neg h0, if_neg h1, if_neg h2]; exact wayE_nil hv
  rw [e]
end Go.Proofs.Ytiijnfakphhbeaa

/- A map of words with their numbers (map[string]int, made by the call); the walk of column.putTexts (layer 6). -/
import Derived.Test.YtiijnfakphhbeaaCol6
namespace Go.Proofs.Ytiijnfakphhbeaa
open Go.RowKit Go.Maps
set_option linter.unusedVariables false
set_option linter.unusedSimpArgs false

theorem lawS : Keyed Try.prog 9 := string_keyed Try.underlying9
theorem keyS (t : List UInt8) (h : t.length ≤ 4294967296) : keyOf Try.prog 9 (txt t) = some (.string t) := by
  have := WideMaps.keyOf_string_mk (P := Try.prog) Try.underlying9 (s := ⟨t.toArray⟩) (by simp [ByteArray.size]; unfold maxLen; omega)
  simpa using this

/-- block b is a map that holds each word with its number -/
def WMap (w : World) (b : Nat) (ws : List (List UInt8)) : Prop :=
  ∃ es clock, w.heap[b]? = some (.map es clock) ∧ es.toList.length = ws.length ∧ (∀ (i : Nat) t, ws[i]? = some t → ∃ e : MapEntry, es.toList[i]? = some e ∧ e.key = txt t ∧ e.val = .int .i64 i) ∧ ws.Nodup ∧ ∀ t ∈ ws, t.length ≤ 4294967296

theorem WMap.made (w : World) : WMap (w.alloc (.map #[] 0)) w.heap.size [] :=
  ⟨#[], 0, (MapKept.heap_alloc w _).1, rfl, by simp, List.nodup_nil, by simp⟩
theorem WMap.lt {w : World} {b : Nat} {ws : List (List UInt8)} (h : WMap w b ws) : b < w.heap.size := by
  obtain ⟨es, clock, hb, _⟩ := h
  exact (Array.getElem?_eq_some_iff.1 hb).1
theorem WMap.kept {w w' : World} {b : Nat} {ws : List (List UInt8)} {row : Option Nat} (h : WMap w b ws) (hg : w.grownBy w' row) (hne : some b ≠ row) : WMap w' b ws := by
  have hlt := h.lt
  obtain ⟨es, clock, hb, F⟩ := h
  exact ⟨es, clock, (hg.block b hlt hne).trans hb, F⟩
theorem WMap.alloc {w : World} {b : Nat} {ws : List (List UInt8)} (h : WMap w b ws) (o : Obj) : WMap (w.alloc o) b ws := h.kept (World.grownBy_alloc w o none) (by simp)
theorem WMap.bel {w w' : World} {b B : Nat} {ws : List (List UInt8)} (h : WMap w b ws) (hb : Below B w w') (hlt : b < B) : WMap w' b ws := by
  obtain ⟨es, clock, h1, F⟩ := h
  exact ⟨es, clock, (hb.block b hlt).trans h1, F⟩
theorem WMap.keys {es : Array MapEntry} {ws : List (List UInt8)} (hl : es.toList.length = ws.length) (he : ∀ (i : Nat) t, ws[i]? = some t → ∃ e : MapEntry, es.toList[i]? = some e ∧ e.key = txt t ∧ e.val = .int .i64 i) (hm : ∀ t ∈ ws, t.length ≤ 4294967296) :
    ∀ (j : Nat) (e : MapEntry), es.toList[j]? = some e → ∃ t, ws[j]? = some t ∧ e.key = txt t ∧ e.val = .int .i64 j ∧ t.length ≤ 4294967296 := by
  intro j e hj
  have hjl : j < ws.length := by rw [← hl]; exact (List.getElem?_eq_some_iff.1 hj).1
  obtain ⟨e', h1, h2, h3⟩ := he j _ (List.getElem?_eq_getElem hjl)
  rw [hj] at h1
  obtain rfl := Option.some.inj h1
  exact ⟨_, List.getElem?_eq_getElem hjl, h2, h3, hm _ (List.getElem_mem hjl)⟩

theorem find_word {ws : List (List UInt8)} (hn : ws.Nodup) {j : Nat} {t : List UInt8} (h : ws[j]? = some t) : ws.idxOf t = j ∧ t ∈ ws := by
  obtain ⟨hj, rfl⟩ := List.getElem?_eq_some_iff.1 h
  exact ⟨List.Nodup.idxOf_getElem hn j hj, List.getElem_mem hj⟩

theorem WMap.find {w : World} {ws : List (List UInt8)} {es : Array MapEntry} (hl : es.toList.length = ws.length) (he : ∀ (i : Nat) t, ws[i]? = some t → ∃ e : MapEntry, es.toList[i]? = some e ∧ e.key = txt t ∧ e.val = .int .i64 i) (hn : ws.Nodup) (hm : ∀ t ∈ ws, t.length ≤ 4294967296)
    (t : List UInt8) (ht : t.length ≤ 4294967296) :
    (t ∉ ws ∧ (Instr.findKey 9 (txt t) es.toList).run Try.prog w = .ok none w) ∨ (t ∈ ws ∧ ∃ j, (Instr.findKey 9 (txt t) es.toList).run Try.prog w = .ok (some (j, .int .i64 (ws.idxOf t : Nat))) w) := by
  have hk := WMap.keys hl he hm
  rcases lawS.find w (keyS t ht) es.toList (fun e hem => by
    obtain ⟨j, hj⟩ := List.getElem?_of_mem hem
    obtain ⟨t', _, h2, _, h4⟩ := hk j e hj
    exact ⟨_, by rw [h2]; exact keyS t' h4⟩) with ⟨h1, h2⟩ | ⟨j, e, h1, h2, h3⟩
  · refine Or.inl ⟨fun hmem => ?_, h1⟩
    obtain ⟨j, hj⟩ := List.getElem?_of_mem hmem
    obtain ⟨e, he1, he2, _⟩ := he j t hj
    exact h2 e (List.mem_of_getElem? he1) he2
  · obtain ⟨t', ht', hk', hv', _⟩ := hk j e h2
    rw [hk', txt_inj] at h3
    subst h3
    obtain ⟨hi, hmem⟩ := find_word hn ht'
    exact Or.inr ⟨hmem, j, by rw [h1, hv', hi]⟩

theorem zeroInt (w : World) : (zeroValue 3).run Try.prog w = .ok (.int .i64 0) w := by rfl

theorem WMap.look {w : World} {b : Nat} {ws : List (List UInt8)} (h : WMap w b ws) (t : List UInt8) (ht : t.length ≤ 4294967296) :
    (Instr.lookup 83 (.map (some b)) (txt t) true).run Try.prog w = .ok (.tuple #[.int .i64 (if t ∈ ws then (ws.idxOf t : Nat) else 0), .bool (decide (t ∈ ws))]) w := by
  obtain ⟨es, clock, hb, hl, he, hn, hm⟩ := h
  rcases WMap.find (w := w) hl he hn hm t ht with ⟨h0, h1⟩ | ⟨h0, j, h1⟩
  · simp [Instr.lookup, run_underlying Try.underlying83, MapKept.run_getObj_map hb, lawS.check w _ (keyS t ht), h1, zeroInt, Result.andThen, h0]
  · simp [Instr.lookup, run_underlying Try.underlying83, MapKept.run_getObj_map hb, lawS.check w _ (keyS t ht), h1, Result.andThen, h0]
theorem WMap.look1 {w : World} {b : Nat} {ws : List (List UInt8)} (h : WMap w b ws) (t : List UInt8) (ht : t.length ≤ 4294967296) (hmem : t ∈ ws) :
    (Instr.lookup 83 (.map (some b)) (txt t) false).run Try.prog w = .ok (.int .i64 (ws.idxOf t : Nat)) w := by
  obtain ⟨es, clock, hb, hl, he, hn, hm⟩ := h
  rcases WMap.find (w := w) hl he hn hm t ht with ⟨h0, h1⟩ | ⟨h0, j, h1⟩
  · exact absurd hmem h0
  · simp [Instr.lookup, run_underlying Try.underlying83, MapKept.run_getObj_map hb, lawS.check w _ (keyS t ht), h1, Result.andThen]
theorem WMap.len {w : World} {b : Nat} {ws : List (List UInt8)} (h : WMap w b ws) (ty : TypeId) : (Builtin.len_ #[83] ty #[.map (some b)]).run Try.prog w = .ok (.int .i64 (ws.length : Nat)) w := by
  obtain ⟨es, clock, hb, hl, _⟩ := h
  have hl2 : es.size = ws.length := by simpa using hl
  simp [Builtin.len_, run_underlying Try.underlying83, MapKept.run_getObj_map hb, goInt, Result.andThen, hl2]
theorem WMap.put {w : World} {b : Nat} {ws : List (List UInt8)} (h : WMap w b ws) (t : List UInt8) (ht : t.length ≤ 4294967296) (hmem : t ∉ ws) :
    ∃ w', (Instr.mapUpdate 83 (.map (some b)) (txt t) (.int .i64 (ws.length : Nat))).run Try.prog w = .ok () w' ∧ WMap w' b (ws ++ [t]) ∧ w.grownBy w' (some b) := by
  obtain ⟨es, clock, hb, hl, he, hn, hm⟩ := h
  rcases WMap.find (w := w) hl he hn hm t ht with ⟨h0, h1⟩ | ⟨h0, j, h1⟩
  · have hl2 : es.size = ws.length := by simpa using hl
    refine ⟨ChangeMaps.setBlock w b (.map (es.push ⟨txt t, .int .i64 (ws.length : Nat), clock⟩) (clock + 1)), ?_, ⟨_, _, ChangeMaps.heap_setBlock_same hb _, ?_, ?_, ?_, ?_⟩, ⟨rfl, rfl, rfl, by simp [ChangeMaps.setBlock], fun i _ hi => ChangeMaps.heap_setBlock_other hb _ (fun e => hi (by rw [e]))⟩⟩
    · simp [Instr.mapUpdate, run_underlying Try.underlying83, MapKept.run_getObj_map hb, lawS.check w false (keyS t ht), h1, MapKept.run_setObj_map _ hb, Result.andThen, ChangeMaps.setBlock]
    · simp [hl2]
    · intro i u hu
      rw [Array.toList_push]
      by_cases hi : i < ws.length
      · rw [List.getElem?_append_left hi] at hu
        obtain ⟨e, h1, h2⟩ := he i u hu
        exact ⟨e, by rw [List.getElem?_append_left (by rw [hl]; exact hi)]; exact h1, h2⟩
      · have hi2 : i = ws.length := by
          have := (List.getElem?_eq_some_iff.1 hu).1
          simp at this; omega
        subst hi2
        rw [List.getElem?_append_right (Nat.le_refl _), Nat.sub_self] at hu
        obtain rfl : t = u := by simpa using hu
        exact ⟨_, by rw [List.getElem?_append_right (by rw [hl]; exact Nat.le_refl _), hl, Nat.sub_self]; rfl, rfl, rfl⟩
    · rw [List.nodup_append]
      exact ⟨hn, by simp, by simp; intro a ha e; exact h0 (e ▸ ha)⟩
    · intro u hu
      rcases List.mem_append.1 hu with h | h
      · exact hm u h
      · simp at h; rw [h]; exact ht
  · exact absurd h0 hmem
end Go.Proofs.Ytiijnfakphhbeaa

/- Words on bytes in memory, for a seat without package varint: slices of bytes that read as lists, what a call that answers bytes leaves, strings of bytes. No condition. -/
import Derived.Test.YtdbhbfpfcdklmaaDrawn
import Derived.Test.YtdbhbfpfcdklmaaVarP
import Derived.Test.YtdbhbfpfcdklmaaApp
namespace Go.Proofs.Ytdbhbfpfcdklmaa
open Go.RowKit

/-- a byte in memory -/
abbrev b8 (c : UInt8) : Value := .int .u8 (c.toNat : Int)
theorem Try.infoU8 : (Try.prog.info? 5).map (fun i => (i.zero, i.size, i.bytes)) = some (some (.int .u8 0), 1, 1) := by kernel_rfl

abbrev cells (l : List UInt8) : List Value := l.map b8
theorem cells_one (l : List UInt8) : ∀ u ∈ cells l, u.oneCell' = true := by
  intro u hu; obtain ⟨c, _, rfl⟩ := List.mem_map.1 hu; rfl
theorem cells_append (a b : List UInt8) : cells (a ++ b) = cells a ++ cells b := List.map_append
theorem cells_snoc (l : List UInt8) {a : Nat} (h : a < 256) : cells (l ++ [a.toUInt8]) = cells l ++ [Value.int .u8 (a : Int)] := by
  rw [cells_append]
  simp only [cells, List.map_cons, List.map_nil, b8, toNat_toUInt8 h]
theorem El_u8 : El Try.prog 22 5 1 1 := el_of Try.underlying22 Try.infoU8 rfl (by decide)

/-- What a call that answers bytes leaves: they lie in new memory, nothing that was there has turned. -/
def RetB (w : World) (l : List UInt8) (e : Ending) (w' : World) : Prop :=
  ∃ A c, e = .returned (.slice A l.length c) ∧ w'.ownsRow w.heap.size 5 1 (.slice A l.length c) l.length (cells l) ∧ Below w.heap.size w w'
theorem retB_of {w w' : World} {l : List UInt8} {v : Value} (h : w'.ownsRow w.heap.size 5 1 v l.length (cells l)) (hb : Below w.heap.size w w') : RetB w l (.returned v) w' := by
  obtain ⟨A, c, rfl, _⟩ := own_form h
  exact ⟨A, c, rfl, h, hb⟩

theorem one_int {k : IntKind} {a : Int} : ∀ u ∈ [Value.int k a], u.oneCell' = true := by
  intro u hu; simp at hu; subst hu; rfl

/-- string(b) of bytes that lie in memory -/
theorem conv_rd {w : World} {B : Nat} {A : Option Addr} {l : List UInt8} (h : Rd w B A (cells l)) (c : Nat) :
    (convert 22 9 (.slice A l.length c)).run Try.prog w = .ok (.string ⟨l.toArray⟩) w := by
  rw [run_convert_bytes_string w 22 9 5 A _ c Try.underlying22 Try.underlying5 Try.underlying9]
  have hfin : (ByteArray.empty.data ++ ((l.map fun c => (c.toNat : Int)).map fun n => UInt8.ofNat n.toNat).toArray) = l.toArray := by
    have e : ∀ l : List UInt8, (l.map fun c => (c.toNat : Int)).map (fun n => UInt8.ofNat n.toNat) = l := fun l => by
      rw [List.map_map]; conv => rhs; rw [← List.map_id l]
      exact List.map_congr_left fun c _ => by simp
    rw [e]
    simp [ByteArray.empty, ByteArray.emptyWithCapacity]
    rfl
  rcases A with _ | ad
  · rcases h with h | ⟨b, o, h, _⟩
    · have : l = [] := by simpa using h
      subst this
      simp [Conv.bytesToString]
      rfl
    · cases h
  · have hl : (loadCells ad l.length).run Try.prog w = .ok ((l.map fun c => (c.toNat : Int)).map (Value.int .u8)).toArray w := by
      have := run_loadCells_list (P := Try.prog) w ad ((l.map fun c => (c.toNat : Int)).map (Value.int .u8)) (fun j v hj => by
        rcases h with h | ⟨b, o, h, _, hc⟩
        · have : l = [] := by simpa using h
          subst this; simp at hj
        · cases h
          have e : (⟨b, o, none⟩ : Addr).add j = ⟨b, o + j, none⟩ := by unfold Addr.add; split <;> simp_all
          rw [e]
          exact hc j v (by rw [← hj, List.map_map]; rfl))
      simpa using this
    rw [run_bytesToString w ad l.length c _ hl, foldl_push_bytes, hfin]
/-- the same of what a call has made -/
theorem conv_own {w : World} {base n c : Nat} {A : Option Addr} {l : List UInt8} (h : w.ownsRow base 5 1 (.slice A n c) n (cells l)) :
    (convert 22 9 (.slice A n c)).run Try.prog w = .ok (.string ⟨l.toArray⟩) w := by
  have hn : n = l.length := by have := h.1; simpa using this.symm
  subst hn
  exact conv_rd (rd_own h) c
end Go.Proofs.Ytdbhbfpfcdklmaa

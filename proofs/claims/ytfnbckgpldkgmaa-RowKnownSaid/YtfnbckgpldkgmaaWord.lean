/- Words shared by laws over bytes: literals in memory, strings of bytes and back. No condition. -/
import Derived.Test.YtfnbckgpldkgmaaVarPut
import Derived.Laws.IdiomStrings
namespace Go.Proofs.Ytfnbckgpldkgmaa
open Go.RowKit

theorem bytes_app (a b : List UInt8) : (⟨a.toArray⟩ : ByteArray) ++ ⟨b.toArray⟩ = ⟨(a ++ b).toArray⟩ := by
  apply ByteArray.ext
  simp
theorem bytes_inj {a b : List UInt8} : ((⟨a.toArray⟩ : ByteArray) = ⟨b.toArray⟩) ↔ a = b := by
  constructor
  · intro h
    have := congrArg ByteArray.data h
    simpa using this
  · rintro rfl; rfl
/-- a literal's cells -/
theorem rd_arr (W : World) (xs : List Value) (T : TypeId) (b B : Nat) (hb : b = W.heap.size) (hB : b < B) : Rd (W.alloc (.cells xs.toArray T)) B (some ⟨b, 0, none⟩) xs := by
  subst hb
  refine .inr ⟨_, _, rfl, hB, fun j u hu => ?_⟩
  have h1 : (W.alloc (.cells xs.toArray T)).heap[W.heap.size]? = some (.cells xs.toArray T (0, 0)) := heap_alloc_new W _
  simp only [World.cell?, h1, Nat.zero_add]
  simpa using hu
theorem own_le {w : World} {base n c : Nat} {A : Option Addr} {e : TypeId} {sz : Nat} {xs : List Value} (h : w.ownsRow base e sz (.slice A n c) n xs) : n ≤ c := by
  obtain ⟨A', c', hv, hc⟩ := own_form h
  simp only [Value.slice.injEq] at hv
  omega
/-- []byte(s) -/
theorem conv_str (w : World) (bs : List UInt8) : ∃ c o, (convert 9 22 (.string ⟨bs.toArray⟩)).run Try.prog w = .ok (.slice (some ⟨w.heap.size, 0, none⟩) bs.length c) (w.drew.alloc o) ∧
    Rd (w.drew.alloc o) (w.heap.size + 1) (some ⟨w.heap.size, 0, none⟩) (cells bs) ∧ bs.length ≤ c := by
  have h := run_bytes_of_string w 9 22 5 ⟨bs.toArray⟩ Try.underlying9 Try.underlying22 Try.underlying5
  have hs : (⟨bs.toArray⟩ : ByteArray).size = bs.length := by simp [ByteArray.size]
  rw [hs] at h
  refine ⟨_, _, h, .inr ⟨_, _, rfl, by omega, fun j u hu => ?_⟩, ?_⟩
  · rw [Nat.zero_add, cell_of_row _ w.heap.size j _ _ _ (heap_alloc_new w.drew _)]
    have hj : j < bs.length := by
      have := (List.getElem?_eq_some_iff.1 hu).1
      simpa using this
    rw [← hu]
    unfold bytesRow
    rw [Array.getElem?_append_left (by simpa using hj)]
    simp
  · exact grownCap_ge _ _ _ _
end Go.Proofs.Ytfnbckgpldkgmaa

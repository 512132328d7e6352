/- How a slice of integers that comes in is opened: a list, and Rd. No condition. -/
import Derived.Test.YtfnbckgpldkgmaaFr
namespace Go.Proofs.Ytfnbckgpldkgmaa
open Go.ChangeShapes Go.WideShapes Go.ChangeAt Go.RowKit Go.Joins Go.Deep

theorem cell_lt {W : World} {p : Addr} {v : Value} (h : W.cell? p = some v) : p.block < W.heap.size := by
  rcases Nat.lt_or_ge p.block W.heap.size with h1 | h1
  · exact h1
  · exfalso
    have h2 : W.heap[p.block]? = none := Array.getElem?_eq_none h1
    simp [World.cell?, h2] at h

section
variable {H : Type} {enc : TypeId × Value → H} {P : Program} {W : World} {base : Nat} {spare : Nat → Bool} {held : Bool}

theorem rd_of {W : World} {a : Addr} {xs : List Value} (h : ∀ i u, xs[i]? = some u → W.cell? (a.add i) = some u) : Rd W W.heap.size (some a) xs := by
  match xs, h with
  | [], _ => exact .inl rfl
  | x :: r, h =>
    have h0 := h 0 x rfl
    obtain ⟨b, o, s⟩ := a
    have hs : s = none := by simpa [Addr.add] using World.cell?_spot h0
    subst hs
    have hb : b < W.heap.size := by
      have := cell_lt h0
      simpa [Addr.add] using this
    exact .inr ⟨b, o, rfl, hb, fun j u hu => by rw [← add_plain]; exact h j u hu⟩

theorem open_nums {r : Reach} {b0 : Nat} {t e : TypeId} {k : IntKind} {v : Value} {d : DataW H} {p : List MemPlace} (ht : P.underlying t = some (.slice e)) (he : P.underlying e = some (.int k)) (hc : P.cellsOf e = 1)
    (hv : Value.okWide P W r b0 t v) (h : DataW.Trod enc P W base spare held t v d p) :
    ∃ (A : Option Addr) (zs : List Int) (c : Nat), v = .slice A zs.length c ∧ Rd W W.heap.size A (zs.map (Value.int k)) ∧ (∀ z ∈ zs, (Lit.int k z).wf = true) ∧ zs.length ≤ c ∧ c ≤ maxLen := by
  obtain ⟨A, len, c, rfl⟩ := okWide_slice ht hv
  obtain ⟨fuel, hf⟩ := h
  rcases open_ints ht he hc hf with ⟨hcs, _⟩ | ⟨a, len', cap, zs, hcs, _, hlc, hcm, hlen, _, hcell, hwf⟩
  · simp [Value.cells] at hcs
    obtain ⟨rfl, rfl, rfl⟩ := hcs
    exact ⟨none, [], 0, rfl, .inl rfl, by simp, by simp, by simp⟩
  · simp [Value.cells] at hcs
    obtain ⟨rfl, rfl, rfl⟩ := hcs
    have hl : len ≤ zs.length := by rw [hlen]; split <;> omega
    refine ⟨some a, zs.take len, c, by rw [List.length_take, Nat.min_eq_left hl], rd_of ?_, fun z hz => hwf z (List.mem_of_mem_take hz), by rw [List.length_take]; omega, hcm⟩
    intro i u hu
    rw [List.getElem?_map] at hu
    obtain ⟨z, hz, rfl⟩ := Option.map_eq_some_iff.1 hu
    have hi : i < len := by
      have := (List.getElem?_eq_some_iff.1 hz).1
      rw [List.length_take] at this; omega
    rw [List.getElem?_take, if_pos hi] at hz
    have := hcell i (by omega)
    rw [this, List.getD_eq_getElem?_getD, hz]
    rfl

theorem bytes_list : ∀ zs : List Int, (∀ z ∈ zs, (Lit.int .u8 z).wf = true) → ∃ l : List UInt8, l.length = zs.length ∧ zs.map (Value.int .u8) = l.map fun c => Value.int .u8 (c.toNat : Int)
  | [], _ => ⟨[], rfl, rfl⟩
  | z :: r, h => by
    obtain ⟨l, h1, h2⟩ := bytes_list r fun z hz => h z (List.mem_cons_of_mem _ hz)
    have hz := u8_bd (h z (List.mem_cons_self ..))
    refine ⟨UInt8.ofNat z.toNat :: l, by simp [h1], ?_⟩
    have e : ((UInt8.ofNat z.toNat).toNat : Int) = z := by
      rw [UInt8.toNat_ofNat']
      omega
    simp only [List.map_cons, h2, e]

theorem open_bytes {r : Reach} {b0 : Nat} {t e : TypeId} {v : Value} {d : DataW H} {p : List MemPlace} (ht : P.underlying t = some (.slice e)) (he : P.underlying e = some (.int .u8)) (hc : P.cellsOf e = 1)
    (hv : Value.okWide P W r b0 t v) (h : DataW.Trod enc P W base spare held t v d p) :
    ∃ (A : Option Addr) (l : List UInt8) (c : Nat), v = .slice A l.length c ∧ Rd W W.heap.size A (l.map fun c => Value.int .u8 (c.toNat : Int)) ∧ (l.length ≤ c ∧ c ≤ maxLen) := by
  obtain ⟨A, zs, c, rfl, hr, hw, hm⟩ := open_nums ht he hc hv h
  obtain ⟨l, h1, h2⟩ := bytes_list zs hw
  exact ⟨A, l, c, by rw [h1], by rw [← h2]; exact hr, by omega⟩
theorem nats_list : ∀ zs : List Int, (∀ z ∈ zs, (Lit.int .u64 z).wf = true) → ∃ l : List Nat, l.length = zs.length ∧ zs.map (Value.int .u64) = l.map (fun c : Nat => Value.int .u64 (c : Int)) ∧ ∀ c ∈ l, c < 18446744073709551616
  | [], _ => ⟨[], rfl, rfl, by simp⟩
  | z :: r, h => by
    obtain ⟨l, h1, h2, h3⟩ := nats_list r fun z hz => h z (List.mem_cons_of_mem _ hz)
    have hz := u64_bd (h z (List.mem_cons_self ..))
    refine ⟨z.toNat :: l, by simp [h1], ?_, ?_⟩
    · have e : ((z.toNat : Nat) : Int) = z := by omega
      simp only [List.map_cons, h2, e]
    · intro c hc
      rcases List.mem_cons.1 hc with rfl | hc
      · omega
      · exact h3 c hc
theorem open_u64s {r : Reach} {b0 : Nat} {t e : TypeId} {v : Value} {d : DataW H} {p : List MemPlace} (ht : P.underlying t = some (.slice e)) (he : P.underlying e = some (.int .u64)) (hc : P.cellsOf e = 1)
    (hv : Value.okWide P W r b0 t v) (h : DataW.Trod enc P W base spare held t v d p) :
    ∃ (A : Option Addr) (l : List Nat) (c : Nat), v = .slice A l.length c ∧ Rd W W.heap.size A (l.map fun c : Nat => Value.int .u64 (c : Int)) ∧ (l.length ≤ c ∧ c ≤ maxLen) ∧ ∀ c ∈ l, c < 18446744073709551616 := by
  obtain ⟨A, zs, c, rfl, hr, hw, hm⟩ := open_nums ht he hc hv h
  obtain ⟨l, h1, h2, h3⟩ := nats_list zs hw
  exact ⟨A, l, c, by rw [h1], by rw [← h2]; exact hr, by omega, h3⟩
end
end Go.Proofs.Ytfnbckgpldkgmaa

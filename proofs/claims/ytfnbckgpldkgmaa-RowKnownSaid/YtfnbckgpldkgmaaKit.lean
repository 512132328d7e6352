/- Words on memory that all walks of this seat share: a slice that reads as a list of cells; what a call that only makes memory leaves. No condition. -/
import Derived.Test.YtfnbckgpldkgmaaRows
import Derived.WalkKit
import Derived.WalkSpells
import Derived.WalkLawsBesides
import Derived.Lib.Hide
import Derived.Handy
import Derived.Deep.RegionHeld3
namespace Go.Proofs.Ytfnbckgpldkgmaa
open Go.RowKit

/-- Behind a call that turns nothing that was there: every old cell reads as before. -/
theorem bcell {W w1 : World} (hb : Below W.heap.size W w1) : (∀ b o, b < W.heap.size → w1.cell? ⟨b, o, none⟩ = W.cell? ⟨b, o, none⟩) ∧ (∀ b o, b < W.heap.size → w1.frozen? ⟨b, o, none⟩ = W.frozen? ⟨b, o, none⟩) :=
  ⟨fun b o h => hb.cell (p := ⟨b, o, none⟩) h, fun b o h => hb.frozen (p := ⟨b, o, none⟩) h⟩

/-- Two structs compared part by part: one Bool. -/
@[go_sem] theorem ite_okb (c : Prop) [Decidable c] (b : Bool) (w : World) : (if c then Result.ok (Next.value (Value.bool b)) w else Result.ok (Next.value (Value.bool false)) w) = Result.ok (Next.value (Value.bool (decide c && b))) w := by
  by_cases h : c <;> simp [h]
theorem cell_al {w : World} {p : Addr} {v : Value} (h : w.cell? p = some v) (hp : p.block < w.heap.size) (o : Obj) : (w.alloc o).cell? p = some v := (World.cell?_alloc_lt w o p hp).trans h
theorem cell_be {B : Nat} {w w' : World} {p : Addr} {v : Value} (h : w.cell? p = some v) (hb : Below B w w') (hp : p.block < B) : w'.cell? p = some v := (hb.cell hp).trans h

/-- The cells 'xs' lie from address 'A' on, in a block below 'B'. -/
def Rd (w : World) (B : Nat) (A : Option Addr) (xs : List Value) : Prop :=
  xs = [] ∨ ∃ b o, A = some ⟨b, o, none⟩ ∧ b < B ∧ ∀ j u, xs[j]? = some u → w.cell? ⟨b, o + j, none⟩ = some u

section
variable {w w' : World} {B B' : Nat} {A : Option Addr} {xs : List Value}
theorem Rd.nil (w : World) (B : Nat) (A : Option Addr) : Rd w B A [] := .inl rfl
theorem Rd.keep (h : Rd w B A xs) (hk : ∀ b o, b < B → w'.cell? ⟨b, o, none⟩ = w.cell? ⟨b, o, none⟩) : Rd w' B A xs := by
  rcases h with h | ⟨b, o, hA, hb, hc⟩
  · exact .inl h
  · exact .inr ⟨b, o, hA, hb, fun j u hu => (hk b _ hb).trans (hc j u hu)⟩
theorem Rd.more (h : Rd w B A xs) (hB : B ≤ B') : Rd w B' A xs := by
  rcases h with h | ⟨b, o, hA, hb, hc⟩
  · exact .inl h
  · exact .inr ⟨b, o, hA, by omega, hc⟩
theorem Rd.below (h : Rd w B A xs) (hb : Below B w w') : Rd w' B A xs := h.keep fun b o hp => hb.cell (p := ⟨b, o, none⟩) hp
theorem Rd.alloc (h : Rd w B A xs) (hB : B ≤ w.heap.size) (o : Obj) : Rd (w.alloc o) B A xs := h.below ((Below.refl _ _).alloc hB o)
theorem Rd.at (h : Rd w B A xs) {k : Nat} (hk : k < xs.length) : ∃ b o, A = some ⟨b, o, none⟩ ∧ b < B ∧ ∀ j u, xs[j]? = some u → w.cell? ⟨b, o + j, none⟩ = some u := by
  rcases h with h | h
  · subst h; simp at hk
  · exact h
theorem Rd.cut (h : Rd w B A xs) (k : Nat) (c : Prop) [Decidable c] (hc : c → xs.length ≤ k) : Rd w B (if c then A else A.map (·.add k)) (xs.drop k) := by
  rcases h with h | ⟨b, o, hA, hb, hcell⟩
  · subst h; exact .inl (by simp)
  · by_cases hcc : c
    · exact .inl (List.drop_eq_nil_of_le (hc hcc))
    · rw [if_neg hcc]
      refine .inr ⟨b, o + k, ?_, hb, fun j u hu => ?_⟩
      · subst hA
        by_cases h0 : k = 0
        · subst h0; simp [Addr.add]
        · simp [Addr.add, h0]
      · rw [Nat.add_assoc]; exact hcell _ _ (by rw [← hu, List.getElem?_drop])
theorem Rd.take (h : Rd w B A xs) (k : Nat) : Rd w B A (xs.take k) := by
  rcases h with h | ⟨b, o, hA, hb, hcell⟩
  · subst h; exact .inl (by simp)
  · exact .inr ⟨b, o, hA, hb, fun j u hu => hcell j u (by rw [List.getElem?_take] at hu; split at hu <;> simp_all)⟩
end
theorem rd_one (W : World) (v : Value) (T : TypeId) (b B : Nat) (hb : b = W.heap.size) (hB : b < B) : Rd (W.alloc (.cells #[v] T)) B (some ⟨b, 0, none⟩) [v] := by
  subst hb
  refine .inr ⟨_, _, rfl, hB, fun j u hu => ?_⟩
  match j, hu with
  | 0, hu => simp at hu; subst hu; simp [go_sem]
theorem rd_two (W : World) (v u : Value) (T : TypeId) (b B : Nat) (hb : b = W.heap.size) (hB : b < B) : Rd (W.alloc (.cells #[v, u] T)) B (some ⟨b, 0, none⟩) [v, u] := by
  subst hb
  refine .inr ⟨_, _, rfl, hB, fun j x hx => ?_⟩
  match j, hx with
  | 0, hx => simp at hx; subst hx; simp [go_sem]
  | 1, hx => simp at hx; subst hx; simp [go_sem]
/-- A contract that only makes memory, said of whatever such calls keep. -/
theorem calls_keep {P : Program} {f : FuncId} {args : Array Value} {v : Value} {S : World → Prop} (hS : ∀ W W', S W → Below W.heap.size W W' → S W')
    (h : ∀ W, Calls P f args W fun e w' => e = .returned v ∧ Below W.heap.size W w') : ∀ W, S W → Calls P f args W fun e w' => e = .returned v ∧ S w' :=
  fun W hW => (h W).mono fun _ _ ⟨he, hb⟩ => ⟨he, hS W _ hW hb⟩
end Go.Proofs.Ytfnbckgpldkgmaa

/- A kind's put and get through the table of functions (layer 6). -/
import Derived.Test.YtiijnfakphhbeaaCol11
namespace Go.Proofs.Ytiijnfakphhbeaa
open Go.RowKit Go.Maps
set_option linter.unusedVariables false
set_option linter.unusedSimpArgs false

theorem tyok_cases {t : UInt8} (h : tyok t = true) : t.toNat = 1 ∨ t.toNat = 2 ∨ t.toNat = 3 := by
  unfold tyok at h; simp at h; omega

theorem put_way {t : UInt8} (ht : tyok t = true) (l : List V) (hl : l.length ≤ 65536) (hx : ∀ v ∈ l, v.t.length ≤ 4294967296) (hT : ((words l).flatMap wbytes).length ≤ 4000000000) :
    ∃ f, cputF t.toNat = .func (.func f) #[] #[] ∧ (∀ args w, (callFunc f args).run Try.prog w = .ok (.enter f args) w) ∧
      ∀ A c w, Rd w w.heap.size A (vcells l) → Calls Try.prog f #[.slice A l.length c] w (RetB w (cbody t l)) := by
  rcases tyok_cases ht with h | h | h
  · refine ⟨41, by unfold cputF; rw [if_pos h], fun _ _ => by kernel_rfl, fun A c w hr => ?_⟩
    unfold cbody; rw [if_pos h]
    exact putTruths_any A c l w hr hl
  · refine ⟨43, by unfold cputF; rw [if_neg (by omega), if_pos h], fun _ _ => by kernel_rfl, fun A c w hr => ?_⟩
    unfold cbody; rw [if_neg (by omega), if_pos h]
    exact putNumbers_any A c l w hr hl
  · refine ⟨45, by unfold cputF; rw [if_neg (by omega), if_neg (by omega), if_pos h], fun _ _ => by kernel_rfl, fun A c w hr => ?_⟩
    unfold cbody; rw [if_neg (by omega), if_neg (by omega)]
    exact putTexts_any A c l w hr hl hx hT

theorem get_way {t : UInt8} (ht : tyok t = true) :
    ∃ f, cgetF t.toNat = .func (.func f) #[] #[] ∧ (∀ args w, (callFunc f args).run Try.prog w = .ok (.enter f args) w) ∧
      ∀ (B : Nat) A c (b : List UInt8) (n : Nat) w, Rd w B A (cells b) → b.length ≤ c → B ≤ w.heap.size → n ≤ 65536 → (n + 1) * (b.length + 10) ≤ 4000000000 → Calls Try.prog f #[.slice A b.length c, .int .i64 (n : Int)] w (RetVE w (cread t b n)) := by
  have hbl : ∀ (b : List UInt8) (n : Nat), (n + 1) * (b.length + 10) ≤ 4000000000 → b.length ≤ 4294967296 := fun b n h => by
    have h1 : b.length ≤ (n + 1) * (b.length + 10) := Nat.le_trans (Nat.le_add_right _ 10) (Nat.le_mul_of_pos_left _ (Nat.succ_pos _))
    omega
  rcases tyok_cases ht with h | h | h
  · obtain rfl : t = 1 := UInt8.toNat_inj.1 h
    exact ⟨42, rfl, fun _ _ => by kernel_rfl, fun B A c b n w hr hc hB hn hbn => getTruths_any B A c b n w hr hc hB hn (hbl b n hbn)⟩
  · obtain rfl : t = 2 := UInt8.toNat_inj.1 h
    exact ⟨44, rfl, fun _ _ => by kernel_rfl, fun B A c b n w hr hc hB hn hbn => getNumbers_any B A c b n w hr hc hB hn (hbl b n hbn)⟩
  · obtain rfl : t = 3 := UInt8.toNat_inj.1 h
    exact ⟨46, rfl, fun _ _ => by kernel_rfl, fun B A c b n w hr hc hB hn hbn => getTexts_any B A c b n w hr hc hB hn hbn⟩
end Go.Proofs.Ytiijnfakphhbeaa

/- The walk of VarintKnown. -/
import Derived.Test.YtlmbajlgdcpgkaaVarL4
import Derived.Laws.IdiomStrings
namespace Go.Proofs.Ytlmbajlgdcpgkaa
open Go.RowKit
set_option linter.unusedVariables false
set_option linter.unusedSimpArgs false

/-- []byte(s) -/
theorem conv_str (w : World) (bs : List UInt8) : ∃ c o, (convert 9 22 (.string ⟨bs.toArray⟩)).run Try.prog w = .ok (.slice (some ⟨w.heap.size, 0, none⟩) bs.length c) (w.drew.alloc o) ∧
    Rd (w.drew.alloc o) (w.heap.size + 1) (some ⟨w.heap.size, 0, none⟩) (cells bs) := by
  have h := run_bytes_of_string w 9 22 5 ⟨bs.toArray⟩ Try.underlying9 Try.underlying22 Try.underlying5
  have hs : (⟨bs.toArray⟩ : ByteArray).size = bs.length := by simp [ByteArray.size]
  rw [hs] at h
  refine ⟨_, _, h, .inr ⟨_, _, rfl, by omega, fun j u hu => ?_⟩⟩
  rw [Nat.zero_add, cell_of_row _ w.heap.size j _ _ _ (heap_alloc_new w.drew _)]
  have hj : j < bs.length := by
    have := (List.getElem?_eq_some_iff.1 hu).1
    simpa using this
  rw [← hu]
  unfold bytesRow
  rw [Array.getElem?_append_left (by simpa using hj)]
  simp [b8]

/-- the table -/
def tbl : List (List UInt8 × Nat) := [([128], 20), ([128, 0], 21), ([], 20), ([255, 255, 255, 255, 255, 255, 255, 255, 255, 1], 0), ([255, 255, 255, 255, 255, 255, 255, 255, 255, 2], 21), ([255, 255, 255, 255, 255, 255, 255, 255, 255, 255], 21), ([255, 255, 255, 255, 255, 255, 255, 255, 255], 20), ([128, 128, 128, 128, 128, 128, 128, 128, 128, 0], 21), ([0, 0], 0)]
theorem tbl_ok : ∀ p ∈ tbl, (vget p.1).2.2 = p.2 := by decide +kernel

theorem tbl_len : ∀ p ∈ tbl, p.1.length ≤ 10 := by decide +kernel
theorem put_max : (vput 18446744073709551615).length = 10 := by
  rw [vput_big (by omega), show 18446744073709551615 / 128 = 144115188075855871 from rfl, vput_big (by omega), show 144115188075855871 / 128 = 1125899906842623 from rfl, vput_big (by omega), show 1125899906842623 / 128 = 8796093022207 from rfl,
    vput_big (by omega), show 8796093022207 / 128 = 68719476735 from rfl, vput_big (by omega), show 68719476735 / 128 = 536870911 from rfl, vput_big (by omega), show 536870911 / 128 = 4194303 from rfl, vput_big (by omega), show 4194303 / 128 = 32767 from rfl,
    vput_big (by omega), show 32767 / 128 = 255 from rfl, vput_big (by omega), show 255 / 128 = 1 from rfl, vput_small (by omega)]
  rfl

set_option maxHeartbeats 2000000 in
set_option maxRecDepth 100000 in
theorem varintKnown_walk (W : World) :
    Calls Try.prog 9 #[] W fun e w' => e = .returned (.bool true) ∧ Below W.heap.size W w' := by
  have hcells : ∀ o w', Below (W.heap.size + 1) (W.alloc (.cells #[.string ⟨#[128]⟩, .int .i64 20, .string ⟨#[128, 0]⟩, .int .i64 21, .string ⟨#[]⟩, .int .i64 20, .string ⟨#[255, 255, 255, 255, 255, 255, 255, 255, 255, 1]⟩, .int .i64 0, .string ⟨#[255, 255, 255, 255, 255, 255, 255, 255, 255, 2]⟩, .int .i64 21, .string ⟨#[255, 255, 255, 255, 255, 255, 255, 255, 255, 255]⟩, .int .i64 21, .string ⟨#[255, 255, 255, 255, 255, 255, 255, 255, 255]⟩, .int .i64 20, .string ⟨#[128, 128, 128, 128, 128, 128, 128, 128, 128, 0]⟩, .int .i64 21, .string ⟨#[0, 0]⟩, .int .i64 0] o)) w' →
      ∀ k (hk : k < 9), w'.cell? ⟨W.heap.size, k * 2, none⟩ = some (.string ⟨(tbl[k]'hk).1.toArray⟩) ∧ w'.cell? ⟨W.heap.size, k * 2 + 1, none⟩ = some (.int .i64 ((tbl[k]'hk).2 : Int)) := by
    intro o w' hb k hk
    rw [hb.cell (p := ⟨W.heap.size, k * 2, none⟩) (Nat.lt_succ_self _), hb.cell (p := ⟨W.heap.size, k * 2 + 1, none⟩) (Nat.lt_succ_self _), cell_of_row _ W.heap.size _ _ _ _ (heap_alloc_new W _), cell_of_row _ W.heap.size _ _ _ _ (heap_alloc_new W _)]
    match k, hk with
    | 0, _ => exact ⟨rfl, rfl⟩
    | 1, _ => exact ⟨rfl, rfl⟩
    | 2, _ => exact ⟨rfl, rfl⟩
    | 3, _ => exact ⟨rfl, rfl⟩
    | 4, _ => exact ⟨rfl, rfl⟩
    | 5, _ => exact ⟨rfl, rfl⟩
    | 6, _ => exact ⟨rfl, rfl⟩
    | 7, _ => exact ⟨rfl, rfl⟩
    | 8, _ => exact ⟨rfl, rfl⟩
  have HC := Lib.hid hcells
  clear hcells
  go_enter Try.func9, Try.ntmps9
  go_wp2
  go_loopw [2] (fun vi wr => ∃ k : Nat, k ≤ 9 ∧ vi = .int .i64 k ∧ Below (W.heap.size + 1) (W.alloc (.cells #[.string ⟨#[128]⟩, .int .i64 20, .string ⟨#[128, 0]⟩, .int .i64 21, .string ⟨#[]⟩, .int .i64 20, .string ⟨#[255, 255, 255, 255, 255, 255, 255, 255, 255, 1]⟩, .int .i64 0, .string ⟨#[255, 255, 255, 255, 255, 255, 255, 255, 255, 2]⟩, .int .i64 21, .string ⟨#[255, 255, 255, 255, 255, 255, 255, 255, 255, 255]⟩, .int .i64 21, .string ⟨#[255, 255, 255, 255, 255, 255, 255, 255, 255]⟩, .int .i64 20, .string ⟨#[128, 128, 128, 128, 128, 128, 128, 128, 128, 0]⟩, .int .i64 21, .string ⟨#[0, 0]⟩, .int .i64 0] 40)) wr)
    (fun vi _ => (9 - intOf vi).toNat)
  case atStart => exact ⟨0, by omega, rfl, Below.refl _ _⟩
  case round =>
    obtain ⟨k, hk, rfl, hbel⟩ := hrel
    by_cases hk9 : k < 9
    · obtain ⟨hc0, hc1⟩ := HC.out _ _ hbel k hk9
      have hv := tbl_ok (tbl[k]'hk9) (List.getElem_mem _)
      have hlb := tbl_len (tbl[k]'hk9) (List.getElem_mem _)
      obtain ⟨⟨bs, e⟩, hbs⟩ : ∃ p, p = tbl[k]'hk9 := ⟨_, rfl⟩
      rw [← hbs] at hc0 hc1 hv hlb
      clear hbs
      obtain ⟨c, o, hcv, hrd⟩ := conv_str wr bs
      have G := Get_any _ _ c bs _ hrd (by simp only at hlb; omega)
      obtain ⟨⟨a, n, z⟩, hvg⟩ : ∃ t, vget bs = t := ⟨_, rfl⟩
      simp only [hvg] at hv
      rw [hvg] at G
      subst hv
      clear hvg
      have hz := hbel.size
      have hltI : (k : Int) < 9 := by omega
      go_wp2_with fail
      refine G.mono ?_; rintro e w5 ⟨rfl, rfl⟩
      have hc1' : (wr.alloc o).cell? ⟨W.heap.size, k * 2 + 1, none⟩ = some (.int .i64 (z : Int)) := by
        rw [World.cell?_alloc_lt _ _ _ (by have h := hz; simp at h; exact Nat.lt_of_succ_le h)]; exact hc1
      go_wp2_with fail
      go_roundw
      case rel => exact ⟨k + 1, by omega, by go_num, hbel.drew.alloc (by have h := hz; simp at h; exact h) _⟩
      case measure => simp [intOf]; omega
    · obtain rfl : k = 9 := by omega
      have hz := hbel.size
      have hb0 : Below W.heap.size W wr := ((Below.refl _ _).alloc (Nat.le_refl _) _).trans (hbel.mono (Nat.le_succ _))
      have hz0 := hb0.size
      have P0 := fun w => putNil 0 (by omega) w
      have P1 := fun w => putNil 127 (by omega) w
      have P2 := fun w => putNil 128 (by omega) w
      have P3 := fun w => putNil 18446744073709551615 (by omega) w
      rw [vput_small (by omega)] at P0 P1
      rw [vput_big (by omega), show 128 / 128 = 1 from rfl, vput_small (by omega)] at P2
      have Z1 := fun w => Zig_any (-9223372036854775808) (by omega) (by omega) w
      have Z2 := fun w => Zag_any 18446744073709551615 (by omega) (by omega) w
      have Z3 := fun w => Zig_any 9223372036854775807 (by omega) (by omega) w
      rw [show zig (-9223372036854775808) = 18446744073709551615 by rfl] at Z1
      rw [show zag 18446744073709551615 = -9223372036854775808 by rfl] at Z2
      rw [show zig 9223372036854775807 = 18446744073709551614 by rfl] at Z3
      have H0 := Lib.hid P0
      have H1 := Lib.hid P1
      have H2 := Lib.hid P2
      have H3 := Lib.hid P3
      have Y1 := Lib.hid Z1
      have Y2 := Lib.hid Z2
      have Y3 := Lib.hid Z3
      clear P0 P1 P2 P3 Z1 Z2 Z3 hk hk9
      go_wp2_with fail
      refine (H0.out _).mono ?_; rintro e w1 ⟨A1, c1, rfl, hown1, hb1⟩
      have hb1' := hb0.trans (hb1.mono (by omega))
      have hz1 := hb1'.size
      have hcv1 : (convert 22 9 (.slice A1 1 c1)).run Try.prog w1 = .ok (.string ⟨[0].toArray⟩) w1 := conv_own hown1
      go_wp2_with fail
      refine (H1.out _).mono ?_; rintro e w2 ⟨A2, c2, rfl, hown2, hb2⟩
      have hb2' := hb1'.trans (hb2.mono (by omega))
      have hz2 := hb2'.size
      have hcv2 : (convert 22 9 (.slice A2 1 c2)).run Try.prog w2 = .ok (.string ⟨[127].toArray⟩) w2 := conv_own hown2
      go_wp2_with fail
      refine (H2.out _).mono ?_; rintro e w3 ⟨A3, c3, rfl, hown3, hb3⟩
      have hb3' := hb2'.trans (hb3.mono (by omega))
      have hz3 := hb3'.size
      have hcv3 : (convert 22 9 (.slice A3 2 c3)).run Try.prog w3 = .ok (.string ⟨[128, 1].toArray⟩) w3 := conv_own hown3
      go_wp2_with fail
      refine (H3.out _).mono ?_; rintro e w4 ⟨A4, c4, rfl, hown4, hb4⟩
      rw [put_max] at *
      have hb4' := hb3'.trans (hb4.mono (by omega))
      have hz4 := hb4'.size
      go_wp2_with fail
      refine (Y1.out _).mono ?_; rintro e w5 ⟨rfl, rfl⟩
      go_wp2_with fail
      refine (Y2.out _).mono ?_; rintro e w5 ⟨rfl, rfl⟩
      go_wp2_with fail
      refine (Y3.out _).mono ?_; rintro e w5 ⟨rfl, rfl⟩
      go_wp2_with fail
      refine (puts_any _).mono ?_; rintro e w5 ⟨rfl, hb5⟩
      go_wp2_with fail
      go_ret
      exact ⟨rfl, hb4'.trans (hb5.mono hz4)⟩
end Go.Proofs.Ytlmbajlgdcpgkaa

/- The walks of the reference's Value and Get (layer 4): what they answer is vread and rget. No condition but sizes. -/
import Derived.Test.YtfnbckgpldkgmaaRow9
namespace Go.Proofs.Ytfnbckgpldkgmaa
open Go.RowKit Go.Maps
set_option linter.unusedVariables false
set_option linter.unusedSimpArgs false

section
variable (B : Nat) (A : Option Addr) (c : Nat) (b : List UInt8) (w : World) (hr : Rd w B A (cells b)) (hc : b.length ≤ c) (hB : B ≤ w.heap.size) (hlen : b.length ≤ 4294967296)
include hr hc hB hlen

set_option maxHeartbeats 1000000 in
set_option maxRecDepth 100000 in
theorem rget1_any : Calls Try.prog 23 #[.int .u8 1, .slice A b.length c] w (RetR w (vread 1 b)) := by
  rcases b with _ | ⟨d, r⟩
  · have he : vread 1 [] = (null, 0, 20) := rfl
    have HE := Lib.hid he
    clear he
    go_enter Try.func23, Try.ntmps23
    go_wp2
    refine bodyPost_ret (v := .tuple #[nullA, .int .i64 0, .int .i64 20]) (by simp [results, Try.results23, go_sem]) rfl (retR_of rfl HE.out (by go_grown))
  · obtain ⟨bb, oo, hA, hbb, hcell⟩ := rd_head hr
    have hcal : ∀ o, (w.alloc o).cell? ⟨bb, oo, none⟩ = some (.int .u8 (d.toNat : Int)) := fun o => cell_al hcell (by show bb < _; omega) _
    obtain ⟨n, hnn⟩ : ∃ n, n = (d :: r).length := ⟨_, rfl⟩
    have hn : 1 ≤ n := by rw [hnn]; simp
    rw [← hnn]
    have hn0 : ((n : Int) == 0) = false := by simp; omega
    have hn1 : (0 : Int) < (n : Int) := by omega
    have hn2 : 0 < n := by omega
    subst hA
    have hd : d.toNat < 256 := d.toNat_lt
    have hR := Lib.hid hr
    clear hnn hr hlen hc hn
    by_cases h1 : 1 < d.toNat
    · have he : vread 1 (d :: r) = (null, 0, 21) := by simp [vread, h1]
      have HE := Lib.hid he
      have h1I : (1 : Int) < (d.toNat : Int) := by omega
      clear he
      go_enter Try.func23, Try.ntmps23
      go_wp2
      refine bodyPost_ret (v := .tuple #[nullA, .int .i64 0, .int .i64 21]) (by simp [results, Try.results23, go_sem]) rfl (retR_of rfl HE.out (by go_grown))
    · have he : vread 1 (d :: r) = (⟨1, d.toNat, []⟩, 1, 0) := by simp [vread, h1]
      have HE := Lib.hid he
      have h1I : (d.toNat : Int) ≤ 1 := by omega
      have hw : IntKind.i64.wrap (d.toNat : Int) = (d.toNat : Int) := by rw [IntKind.wrap_i64]; omega
      clear he
      go_enter Try.func23, Try.ntmps23
      go_wp2
      refine bodyPost_ret (v := .tuple #[va ⟨1, d.toNat, []⟩, .int .i64 1, .int .i64 0]) (by simp [results, Try.results23, go_sem]) rfl (retR_of rfl HE.out (by go_grown))

set_option maxHeartbeats 1000000 in
set_option maxRecDepth 100000 in
theorem rget2_any : Calls Try.prog 23 #[.int .u8 2, .slice A b.length c] w (RetR w (vread 2 b)) := by
  have _ := hc
  have G0 := fun (w1 : World) (h : Below w.heap.size w w1) => rGet_any B A c b w1 (hr.below (h.mono hB)) hlen
  have hv := vget_val b
  have hvr : vread 2 b = if (vget b).2.2 ≠ 0 then (null, 0, (vget b).2.2) else (⟨2, zag (vget b).1, []⟩, (vget b).2.1, 0) := by
    unfold vread; rw [if_neg (by decide)]
    split
    · rfl
    · rw [if_pos (by decide)]
  obtain ⟨x, hx⟩ : ∃ x, x = vget b := ⟨_, rfl⟩
  rw [← hx] at G0 hv hvr
  obtain ⟨u, n, e⟩ := x
  dsimp only at hv hvr
  have HG := Lib.hid G0
  have HV := Lib.hid hvr
  have Z0 := fun w => rZag_any (u : Int) (by omega) (by omega) w
  have HZ := Lib.hid Z0
  clear G0 hx Z0 hvr
  by_cases he : e = 0
  · subst he
    have HE : Hid (vread 2 b = (⟨2, zag u, []⟩, n, 0)) := Lib.hid (by rw [HV.out]; simp)
    clear HV
    go_enter Try.func23, Try.ntmps23
    go_wp2_with fail
    refine (HG.out _ ((Below.refl _ _).alloc (Nat.le_refl _) _)).mono ?_; rintro e w1 ⟨rfl, rfl⟩
    go_wp2_with fail
    refine (HZ.out _).mono ?_; rintro e w1 ⟨rfl, rfl⟩
    go_wp2_with fail
    refine bodyPost_ret (v := .tuple #[va ⟨2, zag u, []⟩, .int .i64 n, .int .i64 0]) (by simp [results, Try.results23, go_sem]) rfl (retR_of rfl HE.out (by go_grown))
  · have HE : Hid (vread 2 b = (null, 0, e)) := Lib.hid (by rw [HV.out, if_pos he])
    have heI : ((e : Int) != 0) = true := by simp; omega
    clear HV
    go_enter Try.func23, Try.ntmps23
    go_wp2_with fail
    refine (HG.out _ ((Below.refl _ _).alloc (Nat.le_refl _) _)).mono ?_; rintro e w1 ⟨rfl, rfl⟩
    go_wp2_with fail
    refine bodyPost_ret (v := .tuple #[nullA, .int .i64 0, .int .i64 e]) (by simp [results, Try.results23, go_sem]) rfl (retR_of rfl HE.out (by go_grown))

set_option maxHeartbeats 1000000 in
set_option maxRecDepth 100000 in
theorem rget3_any : Calls Try.prog 23 #[.int .u8 3, .slice A b.length c] w (RetR w (vread 3 b)) := by
  have G0 := fun (w1 : World) (h : Below w.heap.size w w1) => rGet_any B A c b w1 (hr.below (h.mono hB)) hlen
  have hv := vget_val b
  have hvr : vread 3 b = if (vget b).2.2 ≠ 0 then (null, 0, (vget b).2.2) else if b.length - (vget b).2.1 < (vget b).1 then (null, 0, 20) else (⟨3, 0, (b.drop (vget b).2.1).take (vget b).1⟩, (vget b).2.1 + (vget b).1, 0) := by
    unfold vread; rw [if_neg (by decide)]
    split
    · rfl
    · rw [if_neg (by decide)]
  obtain ⟨x, hx⟩ : ∃ x, x = vget b := ⟨_, rfl⟩
  rw [← hx] at G0 hv hvr
  obtain ⟨u, n, e⟩ := x
  dsimp only at hv hvr
  obtain ⟨hu, _, hn⟩ := hv
  have HG := Lib.hid G0
  have HV := Lib.hid hvr
  clear G0 hx hvr
  by_cases he : e = 0
  · subst he
    have hw1 : IntKind.u64.wrap ((b.length : Int) - (n : Int)) = ((b.length - n : Nat) : Int) := by rw [IntKind.wrap_u64]; omega
    by_cases hun : b.length - n < u
    · have HE : Hid (vread 3 b = (null, 0, 20)) := Lib.hid (by rw [HV.out]; simp [hun])
      have hunI : (b.length : Int) - (n : Int) < (u : Int) := by omega
      clear HV
      go_enter Try.func23, Try.ntmps23
      go_wp2_with fail
      refine (HG.out _ ((Below.refl _ _).alloc (Nat.le_refl _) _)).mono ?_; rintro e w1 ⟨rfl, rfl⟩
      go_wp2_with fail
      refine bodyPost_ret (v := .tuple #[nullA, .int .i64 0, .int .i64 20]) (by simp [results, Try.results23, go_sem]) rfl (retR_of rfl HE.out (by go_grown))
    · have HE : Hid (vread 3 b = (⟨3, 0, (b.drop n).take u⟩, n + u, 0)) := Lib.hid (by rw [HV.out]; simp [hun])
      have hunI : (u : Int) ≤ (b.length : Int) - (n : Int) := by omega
      have hwu : IntKind.i64.wrap (u : Int) = (u : Int) := by rw [IntKind.wrap_i64]; omega
      obtain ⟨A', c', hsl, hrd', hc'⟩ := mid_any c n (n + u) (by omega) (by omega) hc hr
      rw [show n + u - n = u by omega] at hsl hrd'
      have hsl2 := fun w' => hsl w' n ((n : Int) + (u : Int)) rfl (by omega)
      have CV : ∀ w', Below w.heap.size w w' → (convert 22 9 (.slice A' ((b.drop n).take u).length c')).run Try.prog w' = .ok (txt ((b.drop n).take u)) w' := fun w' h => conv_rd (hrd'.below (h.mono hB)) c'
      have cv1 := fun o => CV (w.alloc o) ((Below.refl _ _).alloc (Nat.le_refl _) _)
      clear HV hsl CV
      obtain ⟨s, hs⟩ : ∃ s, s = (b.drop n).take u := ⟨_, rfl⟩
      rw [← hs] at hsl2 HE cv1
      clear hs
      have hnu : ¬ 9223372036854775807 < n + u := by omega
      go_enter Try.func23, Try.ntmps23
      go_wp2_with fail
      refine (HG.out _ ((Below.refl _ _).alloc (Nat.le_refl _) _)).mono ?_; rintro e w1 ⟨rfl, rfl⟩
      go_wp2_with fail
      refine bodyPost_ret (v := .tuple #[va ⟨3, 0, s⟩, .int .i64 ((n + u : Nat) : Int), .int .i64 0]) (by simp [results, Try.results23, go_sem]) rfl (retR_of rfl HE.out (by go_grown))
  · have HE : Hid (vread 3 b = (null, 0, e)) := Lib.hid (by rw [HV.out, if_pos he])
    have heI : ((e : Int) != 0) = true := by simp; omega
    clear HV
    go_enter Try.func23, Try.ntmps23
    go_wp2_with fail
    refine (HG.out _ ((Below.refl _ _).alloc (Nat.le_refl _) _)).mono ?_; rintro e w1 ⟨rfl, rfl⟩
    go_wp2_with fail
    refine bodyPost_ret (v := .tuple #[nullA, .int .i64 0, .int .i64 e]) (by simp [results, Try.results23, go_sem]) rfl (retR_of rfl HE.out (by go_grown))
end
end Go.Proofs.Ytfnbckgpldkgmaa

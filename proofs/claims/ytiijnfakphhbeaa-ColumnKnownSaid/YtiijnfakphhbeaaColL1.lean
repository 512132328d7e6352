/- What the laws of layer 6 share: how much bytes are, 'long', 'puts'. No condition. -/
import Derived.Test.YtiijnfakphhbeaaCR8
import Derived.Test.YtiijnfakphhbeaaCR9
namespace Go.Proofs.Ytiijnfakphhbeaa
open Go.RowKit Go.Maps
set_option linter.unusedVariables false
set_option linter.unusedSimpArgs false

/-! ### how many bytes -/
theorem rl_runs : ∀ (l : List Int) (n : Nat) (ch : Int), (In.rl n ch l).length ≤ l.length + 1
  | [], n, ch => by unfold In.rl; split <;> simp
  | c :: l, n, ch => by
    have h0 := rl_runs l
    have h1 : ∀ (m : Nat) (ch : Int), m ≠ 0 → In.rl m ch (c :: l) = if ch = c then In.rl (m + 1) c l else (m, ch) :: In.rl 1 c l := fun m ch hm => by
      by_cases he : ch = c
      · rw [if_pos he, In.rl_go (fun _ => he)]
      · rw [if_neg he]
        have h2 := In.rl_end (c := ch) hm (c :: l) (by simp; exact fun e => he e.symm)
        rw [h2, In.rl_go (m := 0) (ch := 0) (fun h => absurd rfl h)]
    by_cases hn : n = 0
    · subst hn
      rw [In.rl_go (fun h => absurd rfl h)]
      have := h0 1 c
      simp; omega
    · rw [h1 n ch hn]
      have h3 := h0 (n + 1) c
      have h4 := h0 1 c
      split <;> simp <;> omega
theorem iput_le {l : List Int} (h : ∀ v ∈ l, In.i64 v) (hl : l.length ≤ 65536) : (In.iput l).length ≤ (l.length + 1) * 20 := by
  unfold In.iput
  have hb : ∀ p ∈ In.rl 0 0 (In.chg 0 0 l), (In.enc1 p).length ≤ 20 := fun p hp => by
    have h1 := In.rl_count _ _ _ p hp
    have h2 := In.rl_val _ _ _ (In.chg_i64 l 0 0) (by simp) p hp
    rw [In.chg_length] at h1
    unfold In.enc1
    rw [List.length_append]
    have h3 := vput_length64 (show p.1 < 18446744073709551616 by omega)
    have h4 := vput_length64 (In.zig_nat h2).1
    omega
  have hr := rl_runs (In.chg 0 0 l) 0 0
  rw [In.chg_length] at hr
  have : ∀ R : List (Nat × Int), (∀ p ∈ R, (In.enc1 p).length ≤ 20) → (R.flatMap In.enc1).length ≤ R.length * 20 := by
    intro R
    induction R with
    | nil => simp
    | cons p R ih =>
      intro h
      have h1 := h p (List.mem_cons_self ..)
      have h2 := ih fun q hq => h q (List.mem_cons_of_mem _ hq)
      rw [List.flatMap_cons, List.length_append, List.length_cons]; omega
  have h5 := this _ hb
  omega
theorem words_bound {l : List V} {M : Nat} (h : ∀ v ∈ l, v.t.length ≤ M) (hM : M ≤ 1000000) (hl : l.length ≤ 65536) : ((words l).flatMap wbytes).length ≤ l.length * (M + 10) := by
  have h1 : ∀ t ∈ words l, t.length ≤ M := fun t ht => by
    obtain ⟨v, hv, rfl⟩ := words_of ht
    exact h v hv
  have h2 := flat_bound h1 (by omega)
  exact Nat.le_trans h2 (Nat.mul_le_mul_right _ (words_le l))
theorem cbody_bound {t : UInt8} {l : List V} {M : Nat} (h : ∀ v ∈ l, i64r v.n ∧ v.t.length ≤ M) (hM : M ≤ 60000) (hl : l.length ≤ 65536) : (cbody t l).length ≤ 10 + l.length * (M + 10) + 2000000 := by
  unfold cbody
  split
  · rw [bitsN_len]; unfold size8; omega
  split
  · have := iput_le (l := l.map V.n) (fun n hn => by
      obtain ⟨v, hv, rfl⟩ := List.mem_map.1 hn
      exact (h v hv).1) (by rw [List.length_map]; exact hl)
    rw [List.length_map] at this; omega
  · have h1 := words_bound (fun v hv => (h v hv).2) (by omega) hl
    have h2 := mOf_le (words l) l l.length (by have := words_le l; omega) hl
    have h3 : tput l = mOf (words l) l l.length := by unfold mOf tput; rw [List.take_length]
    rw [h3]; omega
/-- what a call of Put asks, of few and short values -/
theorem put_sizes {t : UInt8} {l : List V} (h : ∀ v ∈ l, i64r v.n ∧ v.t.length ≤ 1000) : (l.length ≤ 65536 → ((words (marks l)).flatMap wbytes).length ≤ 4000000000) ∧ (l.length ≤ 65536 → (cbody t (marks l)).length ≤ 4611686018) := by
  have hm : ∀ v ∈ marks l, i64r v.n ∧ v.t.length ≤ 1000 := fun v hv => h v (mem_marks.1 hv).1
  have hl := marks_le l
  constructor
  · intro h6
    have := words_bound (fun v hv => (hm v hv).2) (by omega) (show (marks l).length ≤ 65536 by omega)
    omega
  · intro h6
    have := cbody_bound (t := t) hm (by omega) (show (marks l).length ≤ 65536 by omega)
    omega

/-! ### long -/
def lng (l : List V) : Bool := decide (500 < l.length) || l.any fun v => decide (300 < v.t.length)
theorem lng_false {l : List V} (h : lng l = false) : l.length ≤ 500 ∧ ∀ v ∈ l, v.t.length ≤ 300 := by
  unfold lng at h
  rw [Bool.or_eq_false_iff, List.any_eq_false] at h
  exact ⟨by simpa using h.1, fun v hv => by have := h.2 v hv; simpa using this⟩
set_option maxRecDepth 100000 in
theorem long_any (B : Nat) (A : Option Addr) (c : Nat) (l : List V) (w : World) (hl : Rd w B A (vcells l)) (hB : B ≤ w.heap.size) :
    Calls Try.prog 11 #[.slice A l.length c] w fun e w' => e = .returned (.bool (lng l)) ∧ w = w' := by
  by_cases h30 : 500 < l.length
  · have he : lng l = true := by simp [lng, h30]
    have h30I : (500 : Int) < (l.length : Int) := by omega
    rw [he]
    clear he
    go_enter Try.func11, Try.ntmps11
    go_wp2
    go_ret
    exact ⟨rfl, rfl⟩
  have h30I : (l.length : Int) ≤ 500 := by omega
  obtain ⟨bl, hbl⟩ : ∃ b, b = lng l := ⟨_, rfl⟩
  have HBL := Lib.hid hbl
  rw [← hbl]
  clear hbl
  go_enter Try.func11, Try.ntmps11
  go_wp2
  go_loopw [3] (fun v3 wr => ∃ k : Nat, k ≤ l.length ∧ v3 = .int .i64 k ∧ (∀ v ∈ l.take k, v.t.length ≤ 300) ∧ w = wr) (fun v3 _ => l.length - (intOf v3).toNat)
  case atStart => exact ⟨0, by omega, rfl, by simp, rfl⟩
  case round =>
    obtain ⟨k, hk, rfl, hall, rfl⟩ := hrel
    have HALL := Lib.hid hall
    clear hall
    by_cases hlt : k < l.length
    · obtain ⟨v, hv⟩ : ∃ v, l[k]? = some v := ⟨_, List.getElem?_eq_getElem hlt⟩
      obtain ⟨gb, go, rfl, hgb, q0, q1, q2⟩ := rd_val hl hv
      have HV := Lib.hid hv
      have hltI : (k : Int) < (l.length : Int) := by omega
      clear hv
      by_cases h3 : 300 < v.t.length
      · have he : bl = true := by
          rw [HBL.out]
          unfold lng
          rw [Bool.or_eq_true, List.any_eq_true]
          exact .inr ⟨v, List.mem_of_getElem? HV.out, by simpa using h3⟩
        subst he
        have h3I : (300 : Int) < (v.t.length : Int) := by omega
        go_wp2_with fail
        go_ret
        exact ⟨rfl, rfl⟩
      · have h3I : (v.t.length : Int) ≤ 300 := by omega
        go_wp2_with fail
        go_roundw
        case rel =>
          refine ⟨k + 1, by omega, by go_num, fun x hx => ?_, by trivial⟩
          rw [List.take_add_one, HV.out] at hx
          rcases List.mem_append.1 hx with h | h
          · exact HALL.out x h
          · simp at h; subst h; omega
        case measure => simp [intOf]; omega
    · have hkk : k = l.length := by omega
      have he : bl = false := by
        have h1 := HALL.out
        rw [hkk, List.take_length] at h1
        rw [HBL.out]
        unfold lng
        rw [Bool.or_eq_false_iff]
        refine ⟨by simpa using h30, ?_⟩
        rw [List.any_eq_false]
        intro v hv
        have := h1 v hv
        simpa using this
      subst he
      subst hkk
      go_wp2_with fail
      go_ret
      exact ⟨rfl, rfl⟩

/-! ### puts -/
abbrev pvs : List V := [⟨3, 0, [97]⟩, ⟨3, 0, [98]⟩, ⟨3, 0, [97]⟩, null]
abbrev pbs : List UInt8 := [2, 1, 20, 1, 0]
abbrev pls : List V := [⟨2, 10, []⟩, null, ⟨2, 20, []⟩]
theorem puts_plain1 : cput 3 pvs = ([8, 2, 1, 97, 1, 98, 0, 1, 0], 0) := by decide +kernel
theorem puts_plain2 : cget 2 pbs 3 = (pls, 0) := by decide +kernel
theorem pvs_ok : ∀ v ∈ pvs, v.k < 256 ∧ i64r v.n ∧ v.t.length ≤ 1000000 := by
  intro v hv
  simp at hv
  rcases hv with rfl | rfl | rfl | rfl <;> exact ⟨by decide, by unfold i64r; decide, by decide⟩
set_option maxHeartbeats 4000000 in
set_option maxRecDepth 100000 in
theorem puts_any (w : World) : Calls Try.prog 15 #[] w fun e w' => e = .returned (.bool true) ∧ Below w.heap.size w w' := by
  have hv : ∀ (w : World), Rd (w.alloc (.cells (vcells pvs).toArray 38)) (w.heap.size + 1) (some ⟨w.heap.size, 0, none⟩) (vcells pvs) := fun w => rd_arr w _ _ _ _ rfl (by omega)
  have hbb : ∀ (w : World), Rd (w.alloc (.cells (cells pbs).toArray 5)) (w.heap.size + 1) (some ⟨w.heap.size, 0, none⟩) (cells pbs) := fun w => rd_arr w _ _ _ _ rfl (by omega)
  have hps := put_sizes (t := 3) (l := pvs) (by
    intro v hv
    simp at hv
    rcases hv with rfl | rfl | rfl | rfl <;> exact ⟨by unfold i64r; decide, by decide⟩)
  obtain ⟨W0, hW0⟩ : ∃ W0, W0 = (w.alloc (.cells #[.int .u8 3, .int .i64 0, .string ⟨#[97]⟩] 38)).alloc (.cells #[.int .u8 3, .int .i64 0, .string ⟨#[98]⟩] 38) := ⟨_, rfl⟩
  have hz0 : W0.heap.size = w.heap.size + 1 + 1 := by rw [hW0]; simp
  have hb00 : Below w.heap.size w W0 := by rw [hW0]; exact ((Below.refl _ _).alloc (Nat.le_refl _) _).alloc (by simp) _
  have K1 := cput_any 3 (some ⟨W0.heap.size, 0, none⟩) 4 pvs (W0.alloc (.cells (vcells pvs).toArray 38)) ((hv W0).more (by simp)) pvs_ok (by simp) hps.1 hps.2
  rw [puts_plain1, hz0, hW0] at K1
  have H1 := Lib.hid K1
  have K2 := fun (w1 : World) => cget_any (w1.heap.size + 1) (some ⟨w1.heap.size, 0, none⟩) 5 2 pbs 3 (w1.alloc (.cells (cells pbs).toArray 5)) (hbb w1) (by simp) (by simp) (by unfold i64r; omega) (by simp) (by intro _ _; decide)
  rw [puts_plain2] at K2
  have H2 := Lib.hid K2
  have HW0 := Lib.hid hW0
  clear K1 K2 hv hbb hps hW0
  go_enter Try.func15, Try.ntmps15
  go_wp2_with fail
  refine H1.out.mono ?_; rintro e w1 ⟨A1, c1, rfl, hown1, hb1⟩
  rw [← HW0.out] at hb1 hown1
  have hb01 : Below w.heap.size w w1 := (hb00.alloc (by omega) _).trans (hb1.mono (by simp; omega))
  have hz1 := hb01.size
  have hown1a := hown1.alloc (.cells (cells pbs).toArray 5)
  clear hown1 hb1 H1
  go_wp2_with fail
  refine (H2.out w1).mono ?_; rintro e w2 ⟨A2, c2, rfl, hown2, hb2⟩
  have hcv := conv_own (own_bel hown1a hb2)
  have hrd := rd_own hown2
  obtain ⟨gb, go, rfl, hgb, q0, q1, q2⟩ := rd_val (l := pls) (i := 0) hrd rfl
  obtain ⟨gb2, go2, heq1, _, r0, r1, r2⟩ := rd_val (l := pls) (i := 1) hrd rfl
  cases heq1
  obtain ⟨gb3, go3, heq2, _, s0, s1, s2⟩ := rd_val (l := pls) (i := 2) hrd rfl
  cases heq2
  simp only [Nat.zero_mul, Nat.add_zero, Nat.zero_add, Nat.one_mul] at q0 q1 q2 r0 r1 r2
  have hb : Below w.heap.size w w2 := (hb01.alloc hb01.size _).trans (hb2.mono (by simp; omega))
  clear hown2 hown1a hb2 hrd
  dsimp only [List.length_cons, List.length_nil] at hcv ⊢
  go_wp2_with fail
  go_ret
  exact ⟨rfl, hb⟩
end Go.Proofs.Ytiijnfakphhbeaa

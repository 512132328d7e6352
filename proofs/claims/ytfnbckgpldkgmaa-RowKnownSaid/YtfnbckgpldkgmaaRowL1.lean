/- The law's own long and puts (layer 4), walked; and plain bounds. No condition. -/
import Derived.Test.YtfnbckgpldkgmaaRow11
import Derived.Lib.SlBytesConst
namespace Go.Proofs.Ytfnbckgpldkgmaa
open Go.RowKit Go.Maps
set_option linter.unusedVariables false
set_option linter.unusedSimpArgs false

def lngR (T : List UInt8) (l : List V) : Bool := decide (60 < T.length) || (decide (60 < l.length) || l.any fun v => decide (400 < v.t.length))
theorem lngR_false {T : List UInt8} {l : List V} (h : lngR T l = false) : T.length ≤ 60 ∧ l.length ≤ 60 ∧ ∀ v ∈ l, v.t.length ≤ 400 := by
  unfold lngR at h
  simp only [Bool.or_eq_false_iff, decide_eq_false_iff_not, List.any_eq_false, decide_eq_true_eq] at h
  exact ⟨by omega, by omega, fun v hv => by have := h.2.2 v hv; omega⟩
theorem rb_len {l : List V} (hl : l.length ≤ 60) (hok : ∀ v ∈ l, vok v) (ht : ∀ v ∈ l, v.t.length ≤ 400) : (rbytes l).length ≤ 25000 := by
  have h := flatv_bound 400 l (fun v hv => ⟨(hok v hv).2.1, ht v hv⟩) (by omega)
  have h2 : l.length * (10 + 400) ≤ 60 * (10 + 400) := Nat.mul_le_mul_right _ hl
  have h3 : size8 l.length ≤ 60 + 7 := by unfold size8; omega
  unfold rbytes
  rw [List.length_append, layP_length]
  omega

set_option maxRecDepth 100000 in
theorem long_any (B : Nat) (A A' : Option Addr) (c c' : Nat) (T : List UInt8) (l : List V) (w : World) (hl : Rd w B A' (vcells l)) (hB : B ≤ w.heap.size) :
    Calls Try.prog 9 #[.slice A T.length c, .slice A' l.length c'] w fun e w' => e = .returned (.bool (lngR T l)) ∧ w = w' := by
  by_cases hT60 : 60 < T.length
  · have he : lngR T l = true := by simp [lngR, hT60]
    have hI : (60 : Int) < (T.length : Int) := by omega
    rw [he]
    clear he
    go_enter Try.func9, Try.ntmps9
    go_wp2
    go_ret
    exact ⟨rfl, rfl⟩
  have hTI : (T.length : Int) ≤ 60 := by omega
  by_cases h60 : 60 < l.length
  · have he : lngR T l = true := by simp [lngR, h60]
    have hI : (60 : Int) < (l.length : Int) := by omega
    rw [he]
    clear he
    go_enter Try.func9, Try.ntmps9
    go_wp2
    go_ret
    exact ⟨rfl, rfl⟩
  have h60I : (l.length : Int) ≤ 60 := by omega
  obtain ⟨bl, hbl⟩ : ∃ b, b = lngR T l := ⟨_, rfl⟩
  have hbl2 : bl = l.any fun v => decide (400 < v.t.length) := by rw [hbl]; simp [lngR, hT60, h60]
  have HBL := Lib.hid hbl2
  rw [← hbl]
  clear hbl hbl2
  go_enter Try.func9, Try.ntmps9
  go_wp2
  go_loopw [5] (fun v5 wr => ∃ k : Nat, k ≤ l.length ∧ v5 = .int .i64 k ∧ (∀ v ∈ l.take k, v.t.length ≤ 400) ∧ w = wr) (fun v5 _ => l.length - (intOf v5).toNat)
  case atStart => exact ⟨0, by omega, rfl, by simp, rfl⟩
  case round =>
    obtain ⟨k, hk, rfl, hall, rfl⟩ := hrel
    have HALL := Lib.hid hall
    clear hall
    by_cases hlt : k < l.length
    · obtain ⟨v, hv⟩ : ∃ v, l[k]? = some v := ⟨_, List.getElem?_eq_getElem hlt⟩
      obtain ⟨gb, go, rfl, hgb, q0, q1, q2⟩ := rd_val hl hv
      have HV := Lib.hid hv
      have hltI : (k : Int) < (l.length : Int) := by omega
      clear hv
      by_cases h3 : 400 < v.t.length
      · have he : bl = true := by
          rw [HBL.out, List.any_eq_true]
          exact ⟨v, List.mem_of_getElem? HV.out, by simpa using h3⟩
        subst he
        have h3I : (400 : Int) < (v.t.length : Int) := by omega
        go_wp2_with fail
        go_ret
        exact ⟨rfl, rfl⟩
      · have h3I : (v.t.length : Int) ≤ 400 := by omega
        go_wp2_with fail
        go_roundw
        case rel =>
          refine ⟨k + 1, by omega, by go_num, fun x hx => ?_, by trivial⟩
          rw [List.take_add_one, HV.out] at hx
          rcases List.mem_append.1 hx with h | h
          · exact HALL.out x h
          · simp at h; subst h; omega
        case measure => simp [intOf]; omega
    · have hkk : k = l.length := by omega
      have he : bl = false := by
        have h1 := HALL.out
        rw [hkk, List.take_length] at h1
        rw [HBL.out, List.any_eq_false]
        intro v hv
        have := h1 v hv
        simpa using this
      subst he
      subst hkk
      go_wp2_with fail
      go_ret
      exact ⟨rfl, rfl⟩

/-- a constant's bytes as a slice: the block bears a mark behind its last cell -/
theorem rd_mark (W : World) (xs : List Value) (T : TypeId) (m : Nat × Nat) (b B : Nat) (hb : b = W.heap.size) (hB : b < B) : Rd (W.alloc (.cells xs.toArray T m)) B (some ⟨b, 0, none⟩) xs := by
  subst hb
  refine .inr ⟨_, _, rfl, hB, fun j u hu => ?_⟩
  have h1 : (W.alloc (.cells xs.toArray T m)).heap[W.heap.size]? = some (.cells xs.toArray T m) := heap_alloc_new W _
  simp only [World.cell?, h1, Nat.zero_add]
  simpa using hu
theorem conv_const (w : World) (C : Array Value) (n c : Nat) : (convert 22 22 (.slice (some ⟨w.heap.size, 0, none⟩) n c)).run Try.prog (w.alloc (.cells C 5)) = .ok (.slice (some ⟨w.heap.size, 0, none⟩) n c) (w.alloc (.cells C 5 (C.size, C.size + 1))) :=
  Lib.run_convert_bytes_const (P := Try.prog) w 22 5 C n c Try.underlying22 Try.underlying5
abbrev pT : List UInt8 := [2, 3, 1]
abbrev pvs : List V := [⟨2, -1, []⟩, ⟨3, 0, [97, 98]⟩, null]
abbrev pbs : List UInt8 := [4, 1, 2, 97, 98]
theorem puts_plain1 : rput pT pvs = (pbs, 0) := by decide +kernel
theorem puts_plain2 : rget pT pbs = (pvs, 0) := by decide +kernel
theorem puts_plain3 : (rbytes pvs).length = 5 := by decide +kernel
set_option maxHeartbeats 4000000 in
set_option maxRecDepth 100000 in
theorem puts_any (w : World) : Calls Try.prog 13 #[] w fun e w' => e = .returned (.bool true) ∧ Below w.heap.size w w' := by
  have hT : ∀ (w : World), Rd (w.alloc (.cells (cells pT).toArray 5)) (w.heap.size + 1) (some ⟨w.heap.size, 0, none⟩) (cells pT) := fun w => rd_arr w _ _ _ _ rfl (by omega)
  have hv : ∀ (w : World), Rd (w.alloc (.cells (vcells pvs).toArray 37)) (w.heap.size + 1) (some ⟨w.heap.size, 0, none⟩) (vcells pvs) := fun w => rd_arr w _ _ _ _ rfl (by omega)
  have hbb : ∀ (w : World), Rd (w.alloc (.cells (cells pbs).toArray 5 (5, 6))) (w.heap.size + 1) (some ⟨w.heap.size, 0, none⟩) (cells pbs) := fun w => rd_mark w _ _ _ _ _ rfl (by omega)
  have kc := conv_const
  have hv2 := hv (w.alloc (.cells (cells pT).toArray 5))
  have hT2 := (hT w).alloc (by simp) (.cells (vcells pvs).toArray 37)
  rw [World.size_alloc] at hv2
  have K1 := Put_row (w.heap.size + 2) (some ⟨w.heap.size, 0, none⟩) (some ⟨w.heap.size + 1, 0, none⟩) 3 3 pT pvs ((w.alloc (.cells (cells pT).toArray 5)).alloc (.cells (vcells pvs).toArray 37)) (hT2.more (by omega)) hv2 (by simp) (by decide) (by decide) (by
    intro v hv
    simp at hv
    rcases hv with rfl | rfl | rfl <;> exact ⟨by decide, by unfold i64r; decide, by decide⟩) (by rw [puts_plain3]; omega)
  rw [puts_plain1] at K1
  have H1 := Lib.hid K1
  clear hv2 K1 hv
  go_enter Try.func13, Try.ntmps13
  go_wp2_with fail
  refine H1.out.mono ?_; rintro e w1 ⟨A1, c1, rfl, hown1, hb1⟩
  have hb01 : Below w.heap.size w w1 := (((Below.refl _ w).alloc (Nat.le_refl _) _).alloc (by simp) _).trans (hb1.mono (by simp; omega))
  have hT3 := (hT2.below (hb1.mono (by simp)))
  have hB1 : w.heap.size + 2 ≤ w1.heap.size := by have := hb1.size; simp at this; omega
  have K2 := Get_row (w1.heap.size + 1) (some ⟨w.heap.size, 0, none⟩) (some ⟨w1.heap.size, 0, none⟩) 3 5 pT pbs (w1.alloc (.cells (cells pbs).toArray 5 (5, 6))) ((hT3.alloc (by omega) _).more (by omega)) (hbb w1) (by simp) (by decide) (by decide) (by decide)
  rw [puts_plain2] at K2
  have H2 := Lib.hid K2
  have hown1a := hown1.alloc (.cells (cells pbs).toArray 5 (5, 6))
  clear K2 hT3 hT2 hT hbb H1 hown1 hb1
  go_wp2_with fail
  refine H2.out.mono ?_; rintro e w2 ⟨A2, c2, rfl, hown2, hb2⟩
  have hcv := conv_own (own_bel hown1a hb2)
  have hrd := rd_own hown2
  obtain ⟨gb, go, rfl, hgb, q0, q1, q2⟩ := rd_val (l := pvs) (i := 0) hrd rfl
  obtain ⟨gb2, go2, heq1, _, r0, r1, r2⟩ := rd_val (l := pvs) (i := 1) hrd rfl
  cases heq1
  obtain ⟨gb3, go3, heq2, _, s0, s1, s2⟩ := rd_val (l := pvs) (i := 2) hrd rfl
  cases heq2
  simp only [Nat.zero_mul, Nat.add_zero, Nat.zero_add, Nat.one_mul] at q0 q1 q2 r0 r1 r2
  have hb : Below w.heap.size w w2 := (hb01.alloc hb01.size _).trans (hb2.mono (by simp; omega))
  clear hown2 hown1a hb2 hrd
  dsimp only [List.length_cons, List.length_nil] at hcv ⊢
  go_wp2_with fail
  go_ret
  exact ⟨rfl, hb⟩
end Go.Proofs.Ytfnbckgpldkgmaa

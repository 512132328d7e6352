/- The law's own keys, long, may (layer 3), walked; and plain bounds. No condition. -/
import Derived.Test.YtdbhbfpfcdklmaaKeyR2
namespace Go.Proofs.Ytdbhbfpfcdklmaa
open Go.RowKit
set_option linter.unusedVariables false
set_option linter.unusedSimpArgs false

theorem esc_le2 : ∀ t : List UInt8, (esc t).length ≤ 2 * t.length
  | [] => by simp [esc]
  | c :: t => by
    have := esc_le2 t
    simp only [esc]; split <;> simp <;> omega
theorem kone_le (v : V) : (kone v).length ≤ 9 + 2 * v.t.length := by
  unfold kone
  have := esc_le2 v.t
  split
  · simp; omega
  split
  · simp; omega
  split
  · simp [be_len]
  · simp; omega
def lng (l : List V) : Bool := decide (30 < l.length) || l.any fun v => decide (300 < v.t.length)
theorem flat_bound : ∀ (l : List V), (∀ v ∈ l, v.t.length ≤ 300) → (l.flatMap kone).length ≤ l.length * 609
  | [], _ => by simp
  | v :: l, h => by
    have h1 := kone_le v
    have h2 := h v (by simp)
    have h3 := flat_bound l fun u hu => h u (by simp [hu])
    simp only [List.flatMap_cons, List.length_append, List.length_cons]
    omega
theorem lng_false {l : List V} (h : lng l = false) : l.length ≤ 30 ∧ (∀ v ∈ l, v.t.length ≤ 300) ∧ (l.flatMap kone).length ≤ 18270 := by
  unfold lng at h
  simp only [Bool.or_eq_false_iff, decide_eq_false_iff_not, List.any_eq_false, decide_eq_true_eq] at h
  have h1 : l.length ≤ 30 := by omega
  have h2 : ∀ v ∈ l, v.t.length ≤ 300 := fun v hv => by have := h.2 v hv; omega
  have h3 := flat_bound l h2
  exact ⟨h1, h2, by omega⟩

set_option maxRecDepth 100000 in
theorem long_any (B : Nat) (A : Option Addr) (c : Nat) (l : List V) (w : World) (hl : Rd w B A (vcells l)) (hB : B ≤ w.heap.size) :
    Calls Try.prog 9 #[.slice A l.length c] w fun e w' => e = .returned (.bool (lng l)) ∧ Below w.heap.size w w' := by
  by_cases h30 : 30 < l.length
  · have he : lng l = true := by simp [lng, h30]
    have h30I : (30 : Int) < (l.length : Int) := by omega
    rw [he]
    clear he
    go_enter Try.func9, Try.ntmps9
    go_wp2
    go_ret
    exact ⟨rfl, by go_grown⟩
  have h30I : (l.length : Int) ≤ 30 := by omega
  obtain ⟨bl, hbl⟩ : ∃ b, b = lng l := ⟨_, rfl⟩
  have HBL := Lib.hid hbl
  rw [← hbl]
  clear hbl
  go_enter Try.func9, Try.ntmps9
  go_wp2
  go_loopw [3] (fun v3 wr => ∃ k : Nat, k ≤ l.length ∧ v3 = .int .i64 k ∧ (∀ v ∈ l.take k, v.t.length ≤ 300) ∧ wr = w) (fun v3 _ => l.length - (intOf v3).toNat)
  case atStart => exact ⟨0, by omega, rfl, by simp, rfl⟩
  case round =>
    obtain ⟨k, hk, rfl, hall, rfl⟩ := hrel
    have HALL := Lib.hid hall
    clear hall
    by_cases hlt : k < l.length
    · obtain ⟨v, hv⟩ : ∃ v, l[k]? = some v := ⟨_, List.getElem?_eq_getElem hlt⟩
      obtain ⟨gb, go, rfl, hgb, q0, q1, q2⟩ := rd_val hl hv
      have HV := Lib.hid hv
      have hltI : (k : Int) < (l.length : Int) := by omega
      clear hv
      by_cases h3 : 300 < v.t.length
      · have he : bl = true := by
          rw [HBL.out]
          unfold lng
          rw [Bool.or_eq_true, List.any_eq_true]
          exact .inr ⟨v, List.mem_of_getElem? HV.out, by simpa using h3⟩
        subst he
        have h3I : (300 : Int) < (v.t.length : Int) := by omega
        go_wp2_with fail
        go_ret
        exact ⟨rfl, Below.refl _ _⟩
      · have h3I : (v.t.length : Int) ≤ 300 := by omega
        go_wp2_with fail
        go_roundw
        case rel =>
          refine ⟨k + 1, by omega, by go_num, fun x hx => ?_, by trivial⟩
          rw [List.take_add_one, HV.out] at hx
          rcases List.mem_append.1 hx with h | h
          · exact HALL.out x h
          · simp at h; subst h; omega
        case measure => simp [intOf]; omega
    · have hkk : k = l.length := by omega
      have he : bl = false := by
        have h1 := HALL.out
        rw [hkk, List.take_length] at h1
        rw [HBL.out]
        unfold lng
        rw [Bool.or_eq_false_iff]
        refine ⟨by simpa using h30, ?_⟩
        rw [List.any_eq_false]
        intro v hv
        have := h1 v hv
        simpa using this
      subst he
      subst hkk
      go_wp2_with fail
      go_ret
      exact ⟨rfl, Below.refl _ _⟩

set_option maxRecDepth 100000 in
theorem mayL_any (B : Nat) (A : Option Addr) (c : Nat) (l : List V) (w : World) (hl : Rd w B A (vcells l)) (hB : B ≤ w.heap.size) (hll : l.length ≤ maxLen) (hok : ∀ v ∈ l, v.k < 256) :
    Calls Try.prog 14 #[.slice A l.length c] w fun e w' => e = .returned (.bool (l.all mayB)) ∧ Below w.heap.size w w' := by
  unfold maxLen at hll
  obtain ⟨bl, hbl⟩ : ∃ b, b = l.all mayB := ⟨_, rfl⟩
  have HBL := Lib.hid hbl
  rw [← hbl]
  clear hbl
  go_enter Try.func14, Try.ntmps14
  go_wp2
  go_loopw [3] (fun v3 wr => ∃ k : Nat, k ≤ l.length ∧ v3 = .int .i64 k ∧ (∀ v ∈ l.take k, mayB v = true) ∧ Below w.heap.size w wr) (fun v3 _ => l.length - (intOf v3).toNat)
  case atStart => exact ⟨0, by omega, rfl, by simp, Below.refl _ _⟩
  case round =>
    obtain ⟨k, hk, rfl, hall, hbel⟩ := hrel
    have HALL := Lib.hid hall
    clear hall
    by_cases hlt : k < l.length
    · obtain ⟨v, hv⟩ : ∃ v, l[k]? = some v := ⟨_, List.getElem?_eq_getElem hlt⟩
      obtain ⟨gb, go, rfl, hgb, q0, q1, q2⟩ := rd_val hl hv
      have r0 := (hbel.cell (p := ⟨gb, go + k * 3, none⟩) (by show gb < _; omega)).trans q0
      have r1 := (hbel.cell (p := ⟨gb, go + k * 3 + 1, none⟩) (by show gb < _; omega)).trans q1
      have r2 := (hbel.cell (p := ⟨gb, go + k * 3 + 2, none⟩) (by show gb < _; omega)).trans q2
      have HV := Lib.hid hv
      have hltI : (k : Int) < (l.length : Int) := by omega
      have M0 := fun w => May_any v (hok v (List.mem_of_getElem? hv)) w
      obtain ⟨mb, hmb⟩ : ∃ x, x = mayB v := ⟨_, rfl⟩
      rw [← hmb] at M0
      have HMB := Lib.hid hmb
      have HM := Lib.hid M0
      clear hv hmb M0 q0 q1 q2
      go_wp2_with fail
      refine (HM.out _).mono ?_; rintro e w2 ⟨rfl, bl2⟩
      have b2 : Below w.heap.size w w2 := hbel.trans (bl2.mono hbel.size)
      rcases mb with _ | _
      · have he : bl = false := by
          rw [HBL.out, List.all_eq_false]
          exact ⟨v, List.mem_of_getElem? HV.out, by rw [← HMB.out]; simp⟩
        subst he
        go_wp2_with fail
        go_ret
        exact ⟨rfl, b2⟩
      · go_wp2_with fail
        go_roundw
        case rel =>
          refine ⟨k + 1, by omega, by go_num, fun x hx => ?_, b2⟩
          rw [List.take_add_one, HV.out] at hx
          rcases List.mem_append.1 hx with h | h
          · exact HALL.out x h
          · simp at h; subst h; exact HMB.out.symm
        case measure => simp [intOf]; omega
    · have hkk : k = l.length := by omega
      have he : bl = true := by
        have h1 := HALL.out
        rw [hkk, List.take_length] at h1
        rw [HBL.out, List.all_eq_true]
        exact h1
      subst he
      subst hkk
      go_wp2_with fail
      go_ret
      exact ⟨rfl, hbel⟩

abbrev kvs : List V := [⟨0, 0, []⟩, ⟨1, 1, []⟩, ⟨2, 1, []⟩, ⟨3, 0, [97]⟩]
abbrev kbs : List UInt8 := [3, 127, 255, 255, 255, 255, 255, 255, 255]
theorem keys_plain1 : kapp [] kvs = ([1, 2, 1, 3, 128, 0, 0, 0, 0, 0, 0, 1, 4, 97, 0, 1], 0) := by decide +kernel
theorem keys_plain2 : kparse kbs = ([⟨2, -1, []⟩], 0) := by decide +kernel
set_option maxHeartbeats 1000000 in
set_option maxRecDepth 100000 in
theorem keys_any (w : World) : Calls Try.prog 13 #[] w fun e w' => e = .returned (.bool true) ∧ Below w.heap.size w w' := by
  have hv : ∀ (w : World), Rd (w.alloc (.cells (vcells kvs).toArray 39)) (w.heap.size + 1) (some ⟨w.heap.size, 0, none⟩) (vcells kvs) := fun w => rd_arr w _ _ _ _ rfl (by omega)
  have hbb : ∀ (w : World), Rd (w.alloc (.cells (cells kbs).toArray 5)) (w.heap.size + 1) (some ⟨w.heap.size, 0, none⟩) (cells kbs) := fun w => rd_arr w _ _ _ _ rfl (by omega)
  have K1 := fun w => Append_any (w.heap.size + 1) none (some ⟨w.heap.size, 0, none⟩) 0 4 [] kvs (w.alloc (.cells (vcells kvs).toArray 39)) (.inl rfl) (hv w) (by simp) (by decide +kernel) (by decide) (by
    intro v hv
    simp at hv
    rcases hv with rfl | rfl | rfl | rfl <;> exact ⟨by decide, by decide, by decide⟩)
  have K2 := fun w => Parse_any (w.heap.size + 1) (some ⟨w.heap.size, 0, none⟩) 9 kbs (w.alloc (.cells (cells kbs).toArray 5)) (hbb w) (by decide) (by simp) (by decide)
  rw [keys_plain1] at K1
  rw [keys_plain2] at K2
  have H1 := Lib.hid K1
  have H2 := Lib.hid K2
  clear hv hbb K1 K2
  go_enter Try.func13, Try.ntmps13
  go_wp2_with fail
  refine (H1.out _).mono ?_; rintro e w1 ⟨A1, c1, rfl, hown1, hb1⟩
  go_wp2_with fail
  refine (H2.out _).mono ?_; rintro e w2 ⟨A2, c2, rfl, hown2, hb2⟩
  have hown1b := own_bel (hown1.alloc (.cells (cells kbs).toArray 5)) hb2
  have hcv := conv_own hown1b
  obtain ⟨gb, go, rfl, hgb, q0, q1, q2⟩ := rd_val (l := [⟨2, -1, []⟩]) (i := 0) (rd_own hown2) rfl
  simp only [Nat.zero_mul, Nat.add_zero, Nat.zero_add] at q0 q1 q2
  have hb : Below w.heap.size w w2 := ((((Below.refl _ w).alloc (Nat.le_refl _) _).trans (hb1.mono (by simp))).alloc (by have := hb1.size; simp at this; omega) _).trans (hb2.mono (by have := hb1.size; simp at *; omega))
  clear hown1 hown2 hown1b hb1 hb2
  dsimp only [List.length_cons, List.length_nil] at hcv ⊢
  go_wp2_with fail
  go_ret
  exact ⟨rfl, hb⟩
end Go.Proofs.Ytdbhbfpfcdklmaa

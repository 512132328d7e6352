/- The walk of the reference's Row (layer 4); append of a string onto bytes of the call's own; the table row.ways. No condition but sizes. -/
import Derived.Test.YtfnbckgpldkgmaaRow1
import Derived.Lib.AppendStr
namespace Go.Proofs.Ytfnbckgpldkgmaa
open Go.RowKit Go.Maps
set_option linter.unusedVariables false
set_option linter.unusedSimpArgs false

theorem mays_iff : ∀ (T : List UInt8) (l : List V), mays T l = true ↔ ∀ (i : Nat) (t : UInt8) (v : V), T[i]? = some t → l[i]? = some v → rmay t v = true
  | [], l => by simp [mays]
  | t :: T, [] => by simp [mays]
  | t :: T, v :: l => by
    simp only [mays, Bool.and_eq_true, mays_iff T l]
    constructor
    · rintro ⟨h1, h2⟩ i t' v' ht hv
      rcases i with _ | i
      · simp at ht hv; subst ht hv; exact h1
      · simp at ht hv; exact h2 i t' v' ht hv
    · intro h
      exact ⟨h 0 t v rfl rfl, fun i t' v' ht hv => h (i + 1) t' v' (by simpa using ht) (by simpa using hv)⟩
/-- the first k are of their types -/
def maysTo (T : List UInt8) (l : List V) (k : Nat) : Prop := ∀ (i : Nat) (t : UInt8) (v : V), i < k → T[i]? = some t → l[i]? = some v → rmay t v = true
theorem maysTo_0 (T : List UInt8) (l : List V) : maysTo T l 0 := fun i t v h => by omega
theorem maysTo_more {T : List UInt8} {l : List V} {k : Nat} {t : UInt8} {v : V} (h : maysTo T l k) (ht : T[k]? = some t) (hv : l[k]? = some v) (hm : rmay t v = true) : maysTo T l (k + 1) := by
  intro i t' v' hi ht' hv'
  by_cases hik : i = k
  · subst hik
    rw [ht] at ht'; rw [hv] at hv'
    cases ht'; cases hv'; exact hm
  · exact h i t' v' (by omega) ht' hv'
theorem maysTo_all {T : List UInt8} {l : List V} {k : Nat} (h : maysTo T l k) (hk : l.length ≤ k) : mays T l = true :=
  (mays_iff T l).2 fun i t v ht hv => h i t v (by have := (List.getElem?_eq_some_iff.1 hv).1; omega) ht hv
theorem mays_no {T : List UInt8} {l : List V} {k : Nat} {t : UInt8} {v : V} (ht : T[k]? = some t) (hv : l[k]? = some v) (hm : rmay t v = false) : mays T l = false := by
  rw [← Bool.not_eq_true, mays_iff]
  intro h
  have := h k t v ht hv
  rw [hm] at this; cases this

set_option maxHeartbeats 4000000 in
set_option maxRecDepth 100000 in
theorem RRow_any (B : Nat) (A A' : Option Addr) (c c' : Nat) (T : List UInt8) (l : List V) (w : World) (hT : Rd w B A (cells T)) (hl : Rd w B A' (vcells l)) (hB : B ≤ w.heap.size) (hll : l.length ≤ maxLen) (hok : ∀ v ∈ l, v.k < 256) :
    Calls Try.prog 17 #[.slice A T.length c, .slice A' l.length c'] w fun e w' => e = .returned (.bool (rowok T l)) ∧ Below w.heap.size w w' := by
  by_cases hlm : l.length = T.length
  case neg =>
    have he : rowok T l = false := by unfold rowok; simp [hlm]
    have HE := Lib.hid he
    have hI : ((l.length : Int) != (T.length : Int)) = true := by simp; omega
    clear he hlm
    go_enter Try.func17, Try.ntmps17
    go_wp2
    go_ret
    exact ⟨by rw [HE.out]; rfl, by go_grown⟩
  obtain ⟨bl, hbl⟩ : ∃ b, b = rowok T l := ⟨_, rfl⟩
  have hbl2 : bl = mays T l := by rw [hbl]; unfold rowok; simp [hlm]
  rw [← hbl]
  have HBL := Lib.hid hbl2
  have HLM := Lib.hid hlm
  obtain ⟨n, hn⟩ : ∃ n, n = l.length := ⟨_, rfl⟩
  have hn2 : T.length = n := by omega
  rw [← hn, hn2]
  have HN := Lib.hid hn
  have HN2 := Lib.hid hn2
  rw [← hn] at hll
  clear hlm hn hn2 hbl hbl2
  unfold maxLen at hll
  go_enter Try.func17, Try.ntmps17
  go_wp2
  go_loopw [5] (fun v5 wr => ∃ k : Nat, k ≤ n ∧ v5 = .int .i64 k ∧ maysTo T l k ∧ Below w.heap.size w wr) (fun v5 _ => n - (intOf v5).toNat)
  case atStart => exact ⟨0, by omega, rfl, maysTo_0 _ _, Below.refl _ _⟩
  case round =>
    obtain ⟨k, hk, rfl, hto, hbel⟩ := hrel
    have HTO := Lib.hid hto
    clear hto
    by_cases hlt : k < n
    · have hn1 := HN.out
      have hn2 := HN2.out
      obtain ⟨v, hv⟩ : ∃ v, l[k]? = some v := ⟨_, List.getElem?_eq_getElem (by omega)⟩
      obtain ⟨t, ht⟩ : ∃ t, T[k]? = some t := ⟨_, List.getElem?_eq_getElem (by omega)⟩
      obtain ⟨gb, go, rfl, hgb, q0, q1, q2⟩ := rd_val hl hv
      obtain ⟨hb, ho, rfl, hhb, hc⟩ := rd_cell hT (show k < T.length by omega)
      have p0 := hc k (by omega)
      rw [show T[k] = t by rw [List.getElem?_eq_getElem (by omega)] at ht; exact Option.some.inj ht] at p0
      have F1 : ∀ w', Below w.heap.size w w' → w'.cell? ⟨gb, go + k * 3, none⟩ = some (.int .u8 (v.k : Int)) ∧ w'.cell? ⟨gb, go + k * 3 + 1, none⟩ = some (.int .i64 v.n) ∧ w'.cell? ⟨gb, go + k * 3 + 2, none⟩ = some (txt v.t) := fun w' hb => ⟨(hb.cell (p := ⟨gb, go + k * 3, none⟩) (by show gb < _; omega)).trans q0, (hb.cell (p := ⟨gb, go + k * 3 + 1, none⟩) (by show gb < _; omega)).trans q1, (hb.cell (p := ⟨gb, go + k * 3 + 2, none⟩) (by show gb < _; omega)).trans q2⟩
      have F2 : ∀ w', Below w.heap.size w w' → w'.cell? ⟨hb, ho + k, none⟩ = some (.int .u8 (t.toNat : Int)) := fun w' hbw => (hbw.cell (p := ⟨hb, ho + k, none⟩) (by show hb < _; omega)).trans p0
      have hkI : (k : Int) < (n : Int) := by omega
      have HV := Lib.hid hv
      have HT := Lib.hid ht
      have M0 := fun w => May_any v (hok v (List.mem_of_getElem? hv)) w
      obtain ⟨mb, hmb⟩ : ∃ x, x = mayB v := ⟨_, rfl⟩
      rw [← hmb] at M0
      have HM := Lib.hid M0
      have hrm : rmay t v = (mb && (decide (v.k = 0) || decide (v.k = t.toNat))) := by rw [hmb]; rfl
      have HRM := Lib.hid hrm
      have ht256 := t.toNat_lt
      have hvk := hok v (List.mem_of_getElem? hv)
      clear q0 q1 q2 p0 hc hn1 hn2 hv ht M0 hmb hrm
      go_wp2_with fail
      cases mb
      · have he : bl = false := by rw [HBL.out]; exact mays_no HT.out HV.out (by rw [HRM.out]; rfl)
        subst he
        refine ah_start 26 (fun w' => Below w.heap.size w w') rfl (by kernel_rfl) hbel.drew ?_ ; intro hS
        (refine mv_val 0 (v := ?_) rfl (by kernel_rfl) (by kernel_rfl) (by kernel_rfl) (fun _ _ _ h => h) (by rfl) hS ?_ ?_; rotate_left; (focus (intro w hSw; (try dsimp only at hSw); (have f1 := (F1 w hSw).1; have f2 := (F1 w hSw).2.1; have f3 := (F1 w hSw).2.2; have f4 := F2 w hSw; have f7 := hlt); go_simp; first | done | with_reducible rfl)); simp only [Act.put, List.setIfInBounds_toArray, List.set_cons_zero, List.set_cons_succ])
        (refine mv_val 1 (v := ?_) rfl (by kernel_rfl) (by kernel_rfl) (by kernel_rfl) (fun _ _ _ h => h) (by rfl) hS ?_ ?_; rotate_left; (focus (intro w hSw; (try dsimp only at hSw); (have f1 := (F1 w hSw).1; have f2 := (F1 w hSw).2.1; have f3 := (F1 w hSw).2.2; have f4 := F2 w hSw; have f7 := hlt); go_simp; first | done | with_reducible rfl)); simp only [Act.put, List.setIfInBounds_toArray, List.set_cons_zero, List.set_cons_succ])
        (refine mv_val 2 (v := ?_) rfl (by kernel_rfl) (by kernel_rfl) (by kernel_rfl) (fun _ _ _ h => h) (by rfl) hS ?_ ?_; rotate_left; (focus (intro w hSw; (try dsimp only at hSw); (have f1 := (F1 w hSw).1; have f2 := (F1 w hSw).2.1; have f3 := (F1 w hSw).2.2; have f4 := F2 w hSw; have f7 := hlt); go_simp; first | done | with_reducible rfl)); simp only [Act.put, List.setIfInBounds_toArray, List.set_cons_zero, List.set_cons_succ])
        (refine mv_val 3 (v := ?_) rfl (by kernel_rfl) (by kernel_rfl) (by kernel_rfl) (fun _ _ _ h => h) (by rfl) hS ?_ ?_; rotate_left; (focus (intro w hSw; (try dsimp only at hSw); (have f1 := (F1 w hSw).1; have f2 := (F1 w hSw).2.1; have f3 := (F1 w hSw).2.2; have f4 := F2 w hSw; have f7 := hlt); go_simp; first | done | with_reducible rfl)); simp only [Act.put, List.setIfInBounds_toArray, List.set_cons_zero, List.set_cons_succ])
        (refine mv_call 4 (f := ?_) (args := ?_) rfl (by kernel_rfl) (by rfl) ?_ ?_; rotate_left 2; (focus (go_simp; first | done | with_reducible rfl | (refine ⟨?_, ?_⟩ <;> with_reducible rfl))))
        refine (HM.out _).mono ?_; rintro e w2 ⟨rfl, hb2⟩
        have hS2 : Below w.heap.size w w2 := hS.trans (hb2.mono hS.size)
        refine ⟨_, rfl, hS2, ?_⟩
        replace hS := hS2
        simp only [Act.put, List.setIfInBounds_toArray, List.set_cons_zero, List.set_cons_succ]
        (refine mv_val 5 (v := ?_) rfl (by kernel_rfl) (by kernel_rfl) (by kernel_rfl) (fun _ _ _ h => h) (by rfl) hS ?_ ?_; rotate_left; (focus (intro w hSw; (try dsimp only at hSw); (have f1 := (F1 w hSw).1; have f2 := (F1 w hSw).2.1; have f3 := (F1 w hSw).2.2; have f4 := F2 w hSw; have f7 := hlt); go_simp; first | done | with_reducible rfl)); simp only [Act.put, List.setIfInBounds_toArray, List.set_cons_zero, List.set_cons_succ])
        (refine mv_val 6 (v := ?_) rfl (by kernel_rfl) (by kernel_rfl) (by kernel_rfl) (fun _ _ _ h => h) (by rfl) hS ?_ ?_; rotate_left; (focus (intro w hSw; (try dsimp only at hSw); (have f1 := (F1 w hSw).1; have f2 := (F1 w hSw).2.1; have f3 := (F1 w hSw).2.2; have f4 := F2 w hSw; have f7 := hlt); go_simp; first | done | with_reducible rfl)); simp only [Act.put, List.setIfInBounds_toArray, List.set_cons_zero, List.set_cons_succ])
        (refine mv_skip 7 rfl (by kernel_rfl) (by kernel_rfl) (by kernel_rfl) (fun _ _ _ h => h) (by rfl) hS ?_; simp only [Act.put, List.setIfInBounds_toArray, List.set_cons_zero, List.set_cons_succ])
        (refine mv_skip 8 rfl (by kernel_rfl) (by kernel_rfl) (by kernel_rfl) (fun _ _ _ h => h) (by rfl) hS ?_; simp only [Act.put, List.setIfInBounds_toArray, List.set_cons_zero, List.set_cons_succ])
        (refine mv_skip 9 rfl (by kernel_rfl) (by kernel_rfl) (by kernel_rfl) (fun _ _ _ h => h) (by rfl) hS ?_; simp only [Act.put, List.setIfInBounds_toArray, List.set_cons_zero, List.set_cons_succ])
        (refine mv_skip 10 rfl (by kernel_rfl) (by kernel_rfl) (by kernel_rfl) (fun _ _ _ h => h) (by rfl) hS ?_; simp only [Act.put, List.setIfInBounds_toArray, List.set_cons_zero, List.set_cons_succ])
        (refine mv_skip 11 rfl (by kernel_rfl) (by kernel_rfl) (by kernel_rfl) (fun _ _ _ h => h) (by rfl) hS ?_; simp only [Act.put, List.setIfInBounds_toArray, List.set_cons_zero, List.set_cons_succ])
        (refine mv_skip 12 rfl (by kernel_rfl) (by kernel_rfl) (by kernel_rfl) (fun _ _ _ h => h) (by rfl) hS ?_; simp only [Act.put, List.setIfInBounds_toArray, List.set_cons_zero, List.set_cons_succ])
        (refine mv_skip 13 rfl (by kernel_rfl) (by kernel_rfl) (by kernel_rfl) (fun _ _ _ h => h) (by rfl) hS ?_; simp only [Act.put, List.setIfInBounds_toArray, List.set_cons_zero, List.set_cons_succ])
        (refine mv_skip 14 rfl (by kernel_rfl) (by kernel_rfl) (by kernel_rfl) (fun _ _ _ h => h) (by rfl) hS ?_; simp only [Act.put, List.setIfInBounds_toArray, List.set_cons_zero, List.set_cons_succ])
        (refine mv_skip 15 rfl (by kernel_rfl) (by kernel_rfl) (by kernel_rfl) (fun _ _ _ h => h) (by rfl) hS ?_; simp only [Act.put, List.setIfInBounds_toArray, List.set_cons_zero, List.set_cons_succ])
        (refine mv_skip 16 rfl (by kernel_rfl) (by kernel_rfl) (by kernel_rfl) (fun _ _ _ h => h) (by rfl) hS ?_; simp only [Act.put, List.setIfInBounds_toArray, List.set_cons_zero, List.set_cons_succ])
        (refine mv_skip 17 rfl (by kernel_rfl) (by kernel_rfl) (by kernel_rfl) (fun _ _ _ h => h) (by rfl) hS ?_; simp only [Act.put, List.setIfInBounds_toArray, List.set_cons_zero, List.set_cons_succ])
        (refine mv_skip 18 rfl (by kernel_rfl) (by kernel_rfl) (by kernel_rfl) (fun _ _ _ h => h) (by rfl) hS ?_; simp only [Act.put, List.setIfInBounds_toArray, List.set_cons_zero, List.set_cons_succ])
        (refine mv_skip 19 rfl (by kernel_rfl) (by kernel_rfl) (by kernel_rfl) (fun _ _ _ h => h) (by rfl) hS ?_; simp only [Act.put, List.setIfInBounds_toArray, List.set_cons_zero, List.set_cons_succ])
        (refine mv_skip 20 rfl (by kernel_rfl) (by kernel_rfl) (by kernel_rfl) (fun _ _ _ h => h) (by rfl) hS ?_; simp only [Act.put, List.setIfInBounds_toArray, List.set_cons_zero, List.set_cons_succ])
        (refine mv_skip 21 rfl (by kernel_rfl) (by kernel_rfl) (by kernel_rfl) (fun _ _ _ h => h) (by rfl) hS ?_; simp only [Act.put, List.setIfInBounds_toArray, List.set_cons_zero, List.set_cons_succ])
        (refine mv_skip 22 rfl (by kernel_rfl) (by kernel_rfl) (by kernel_rfl) (fun _ _ _ h => h) (by rfl) hS ?_; simp only [Act.put, List.setIfInBounds_toArray, List.set_cons_zero, List.set_cons_succ])
        (refine mv_skip 23 rfl (by kernel_rfl) (by kernel_rfl) (by kernel_rfl) (fun _ _ _ h => h) (by rfl) hS ?_; simp only [Act.put, List.setIfInBounds_toArray, List.set_cons_zero, List.set_cons_succ])
        (refine mv_skip 24 rfl (by kernel_rfl) (by kernel_rfl) (by kernel_rfl) (fun _ _ _ h => h) (by rfl) hS ?_; simp only [Act.put, List.setIfInBounds_toArray, List.set_cons_zero, List.set_cons_succ])
        (refine mv_val 25 (v := ?_) rfl (by kernel_rfl) (by kernel_rfl) (by kernel_rfl) (fun _ _ _ h => h) (by rfl) hS ?_ ?_; rotate_left; (focus (intro w hSw; (try dsimp only at hSw); (have f1 := (F1 w hSw).1; have f2 := (F1 w hSw).2.1; have f3 := (F1 w hSw).2.2; have f4 := F2 w hSw; have f7 := hlt); go_simp; first | done | with_reducible rfl)); simp only [Act.put, List.setIfInBounds_toArray, List.set_cons_zero, List.set_cons_succ])
        refine wpAnyH_done (by kernel_rfl) ?_ _
        go_wp2_with fail
        go_ret
        exact ⟨rfl, hS⟩
      · by_cases h0 : v.k = 0
        · have hr1 : rmay t v = true := by rw [HRM.out]; simp [h0]
          have HR1 := Lib.hid hr1
          have hz : ((v.k : Int) != 0) = false := by simp; omega
          clear hr1 HRM h0
          refine ah_start 26 (fun w' => Below w.heap.size w w') rfl (by kernel_rfl) hbel.drew ?_ ; intro hS
          (refine mv_val 0 (v := ?_) rfl (by kernel_rfl) (by kernel_rfl) (by kernel_rfl) (fun _ _ _ h => h) (by rfl) hS ?_ ?_; rotate_left; (focus (intro w hSw; (try dsimp only at hSw); (have f1 := (F1 w hSw).1; have f2 := (F1 w hSw).2.1; have f3 := (F1 w hSw).2.2; have f4 := F2 w hSw; have f7 := hlt; have f8 := hz); go_simp; first | done | with_reducible rfl)); simp only [Act.put, List.setIfInBounds_toArray, List.set_cons_zero, List.set_cons_succ])
          (refine mv_val 1 (v := ?_) rfl (by kernel_rfl) (by kernel_rfl) (by kernel_rfl) (fun _ _ _ h => h) (by rfl) hS ?_ ?_; rotate_left; (focus (intro w hSw; (try dsimp only at hSw); (have f1 := (F1 w hSw).1; have f2 := (F1 w hSw).2.1; have f3 := (F1 w hSw).2.2; have f4 := F2 w hSw; have f7 := hlt; have f8 := hz); go_simp; first | done | with_reducible rfl)); simp only [Act.put, List.setIfInBounds_toArray, List.set_cons_zero, List.set_cons_succ])
          (refine mv_val 2 (v := ?_) rfl (by kernel_rfl) (by kernel_rfl) (by kernel_rfl) (fun _ _ _ h => h) (by rfl) hS ?_ ?_; rotate_left; (focus (intro w hSw; (try dsimp only at hSw); (have f1 := (F1 w hSw).1; have f2 := (F1 w hSw).2.1; have f3 := (F1 w hSw).2.2; have f4 := F2 w hSw; have f7 := hlt; have f8 := hz); go_simp; first | done | with_reducible rfl)); simp only [Act.put, List.setIfInBounds_toArray, List.set_cons_zero, List.set_cons_succ])
          (refine mv_val 3 (v := ?_) rfl (by kernel_rfl) (by kernel_rfl) (by kernel_rfl) (fun _ _ _ h => h) (by rfl) hS ?_ ?_; rotate_left; (focus (intro w hSw; (try dsimp only at hSw); (have f1 := (F1 w hSw).1; have f2 := (F1 w hSw).2.1; have f3 := (F1 w hSw).2.2; have f4 := F2 w hSw; have f7 := hlt; have f8 := hz); go_simp; first | done | with_reducible rfl)); simp only [Act.put, List.setIfInBounds_toArray, List.set_cons_zero, List.set_cons_succ])
          (refine mv_call 4 (f := ?_) (args := ?_) rfl (by kernel_rfl) (by rfl) ?_ ?_; rotate_left 2; (focus (go_simp; first | done | with_reducible rfl | (refine ⟨?_, ?_⟩ <;> with_reducible rfl))))
          refine (HM.out _).mono ?_; rintro e w2 ⟨rfl, hb2⟩
          have hS2 : Below w.heap.size w w2 := hS.trans (hb2.mono hS.size)
          refine ⟨_, rfl, hS2, ?_⟩
          replace hS := hS2
          simp only [Act.put, List.setIfInBounds_toArray, List.set_cons_zero, List.set_cons_succ]
          (refine mv_val 5 (v := ?_) rfl (by kernel_rfl) (by kernel_rfl) (by kernel_rfl) (fun _ _ _ h => h) (by rfl) hS ?_ ?_; rotate_left; (focus (intro w hSw; (try dsimp only at hSw); (have f1 := (F1 w hSw).1; have f2 := (F1 w hSw).2.1; have f3 := (F1 w hSw).2.2; have f4 := F2 w hSw; have f7 := hlt; have f8 := hz); go_simp; first | done | with_reducible rfl)); simp only [Act.put, List.setIfInBounds_toArray, List.set_cons_zero, List.set_cons_succ])
          (refine mv_val 6 (v := ?_) rfl (by kernel_rfl) (by kernel_rfl) (by kernel_rfl) (fun _ _ _ h => h) (by rfl) hS ?_ ?_; rotate_left; (focus (intro w hSw; (try dsimp only at hSw); (have f1 := (F1 w hSw).1; have f2 := (F1 w hSw).2.1; have f3 := (F1 w hSw).2.2; have f4 := F2 w hSw; have f7 := hlt; have f8 := hz); go_simp; first | done | with_reducible rfl)); simp only [Act.put, List.setIfInBounds_toArray, List.set_cons_zero, List.set_cons_succ])
          (refine mv_val 7 (v := ?_) rfl (by kernel_rfl) (by kernel_rfl) (by kernel_rfl) (fun _ _ _ h => h) (by rfl) hS ?_ ?_; rotate_left; (focus (intro w hSw; (try dsimp only at hSw); (have f1 := (F1 w hSw).1; have f2 := (F1 w hSw).2.1; have f3 := (F1 w hSw).2.2; have f4 := F2 w hSw; have f7 := hlt; have f8 := hz); go_simp; first | done | with_reducible rfl)); simp only [Act.put, List.setIfInBounds_toArray, List.set_cons_zero, List.set_cons_succ])
          (refine mv_val 8 (v := ?_) rfl (by kernel_rfl) (by kernel_rfl) (by kernel_rfl) (fun _ _ _ h => h) (by rfl) hS ?_ ?_; rotate_left; (focus (intro w hSw; (try dsimp only at hSw); (have f1 := (F1 w hSw).1; have f2 := (F1 w hSw).2.1; have f3 := (F1 w hSw).2.2; have f4 := F2 w hSw; have f7 := hlt; have f8 := hz); go_simp; first | done | with_reducible rfl)); simp only [Act.put, List.setIfInBounds_toArray, List.set_cons_zero, List.set_cons_succ])
          (refine mv_val 9 (v := ?_) rfl (by kernel_rfl) (by kernel_rfl) (by kernel_rfl) (fun _ _ _ h => h) (by rfl) hS ?_ ?_; rotate_left; (focus (intro w hSw; (try dsimp only at hSw); (have f1 := (F1 w hSw).1; have f2 := (F1 w hSw).2.1; have f3 := (F1 w hSw).2.2; have f4 := F2 w hSw; have f7 := hlt; have f8 := hz); go_simp; first | done | with_reducible rfl)); simp only [Act.put, List.setIfInBounds_toArray, List.set_cons_zero, List.set_cons_succ])
          (refine mv_val 10 (v := ?_) rfl (by kernel_rfl) (by kernel_rfl) (by kernel_rfl) (fun _ _ _ h => h) (by rfl) hS ?_ ?_; rotate_left; (focus (intro w hSw; (try dsimp only at hSw); (have f1 := (F1 w hSw).1; have f2 := (F1 w hSw).2.1; have f3 := (F1 w hSw).2.2; have f4 := F2 w hSw; have f7 := hlt; have f8 := hz); go_simp; first | done | with_reducible rfl)); simp only [Act.put, List.setIfInBounds_toArray, List.set_cons_zero, List.set_cons_succ])
          (refine mv_val 11 (v := ?_) rfl (by kernel_rfl) (by kernel_rfl) (by kernel_rfl) (fun _ _ _ h => h) (by rfl) hS ?_ ?_; rotate_left; (focus (intro w hSw; (try dsimp only at hSw); (have f1 := (F1 w hSw).1; have f2 := (F1 w hSw).2.1; have f3 := (F1 w hSw).2.2; have f4 := F2 w hSw; have f7 := hlt; have f8 := hz); go_simp; first | done | with_reducible rfl)); simp only [Act.put, List.setIfInBounds_toArray, List.set_cons_zero, List.set_cons_succ])
          (refine mv_val 12 (v := ?_) rfl (by kernel_rfl) (by kernel_rfl) (by kernel_rfl) (fun _ _ _ h => h) (by rfl) hS ?_ ?_; rotate_left; (focus (intro w hSw; (try dsimp only at hSw); (have f1 := (F1 w hSw).1; have f2 := (F1 w hSw).2.1; have f3 := (F1 w hSw).2.2; have f4 := F2 w hSw; have f7 := hlt; have f8 := hz); go_simp; first | done | with_reducible rfl)); simp only [Act.put, List.setIfInBounds_toArray, List.set_cons_zero, List.set_cons_succ])
          (refine mv_val 13 (v := ?_) rfl (by kernel_rfl) (by kernel_rfl) (by kernel_rfl) (fun _ _ _ h => h) (by rfl) hS ?_ ?_; rotate_left; (focus (intro w hSw; (try dsimp only at hSw); (have f1 := (F1 w hSw).1; have f2 := (F1 w hSw).2.1; have f3 := (F1 w hSw).2.2; have f4 := F2 w hSw; have f7 := hlt; have f8 := hz); go_simp; first | done | with_reducible rfl)); simp only [Act.put, List.setIfInBounds_toArray, List.set_cons_zero, List.set_cons_succ])
          (refine mv_skip 14 rfl (by kernel_rfl) (by kernel_rfl) (by kernel_rfl) (fun _ _ _ h => h) (by rfl) hS ?_; simp only [Act.put, List.setIfInBounds_toArray, List.set_cons_zero, List.set_cons_succ])
          (refine mv_skip 15 rfl (by kernel_rfl) (by kernel_rfl) (by kernel_rfl) (fun _ _ _ h => h) (by rfl) hS ?_; simp only [Act.put, List.setIfInBounds_toArray, List.set_cons_zero, List.set_cons_succ])
          (refine mv_skip 16 rfl (by kernel_rfl) (by kernel_rfl) (by kernel_rfl) (fun _ _ _ h => h) (by rfl) hS ?_; simp only [Act.put, List.setIfInBounds_toArray, List.set_cons_zero, List.set_cons_succ])
          (refine mv_skip 17 rfl (by kernel_rfl) (by kernel_rfl) (by kernel_rfl) (fun _ _ _ h => h) (by rfl) hS ?_; simp only [Act.put, List.setIfInBounds_toArray, List.set_cons_zero, List.set_cons_succ])
          (refine mv_skip 18 rfl (by kernel_rfl) (by kernel_rfl) (by kernel_rfl) (fun _ _ _ h => h) (by rfl) hS ?_; simp only [Act.put, List.setIfInBounds_toArray, List.set_cons_zero, List.set_cons_succ])
          (refine mv_skip 19 rfl (by kernel_rfl) (by kernel_rfl) (by kernel_rfl) (fun _ _ _ h => h) (by rfl) hS ?_; simp only [Act.put, List.setIfInBounds_toArray, List.set_cons_zero, List.set_cons_succ])
          (refine mv_skip 20 rfl (by kernel_rfl) (by kernel_rfl) (by kernel_rfl) (fun _ _ _ h => h) (by rfl) hS ?_; simp only [Act.put, List.setIfInBounds_toArray, List.set_cons_zero, List.set_cons_succ])
          (refine mv_skip 21 rfl (by kernel_rfl) (by kernel_rfl) (by kernel_rfl) (fun _ _ _ h => h) (by rfl) hS ?_; simp only [Act.put, List.setIfInBounds_toArray, List.set_cons_zero, List.set_cons_succ])
          (refine mv_skip 22 rfl (by kernel_rfl) (by kernel_rfl) (by kernel_rfl) (fun _ _ _ h => h) (by rfl) hS ?_; simp only [Act.put, List.setIfInBounds_toArray, List.set_cons_zero, List.set_cons_succ])
          (refine mv_skip 23 rfl (by kernel_rfl) (by kernel_rfl) (by kernel_rfl) (fun _ _ _ h => h) (by rfl) hS ?_; simp only [Act.put, List.setIfInBounds_toArray, List.set_cons_zero, List.set_cons_succ])
          (refine mv_val 24 (v := ?_) rfl (by kernel_rfl) (by kernel_rfl) (by kernel_rfl) (fun _ _ _ h => h) (by rfl) hS ?_ ?_; rotate_left; (focus (intro w hSw; (try dsimp only at hSw); (have f1 := (F1 w hSw).1; have f2 := (F1 w hSw).2.1; have f3 := (F1 w hSw).2.2; have f4 := F2 w hSw; have f7 := hlt; have f8 := hz); go_simp; first | done | with_reducible rfl)); simp only [Act.put, List.setIfInBounds_toArray, List.set_cons_zero, List.set_cons_succ])
          (refine mv_val 25 (v := ?_) rfl (by kernel_rfl) (by kernel_rfl) (by kernel_rfl) (fun _ _ _ h => h) (by rfl) hS ?_ ?_; rotate_left; (focus (intro w hSw; (try dsimp only at hSw); (have f1 := (F1 w hSw).1; have f2 := (F1 w hSw).2.1; have f3 := (F1 w hSw).2.2; have f4 := F2 w hSw; have f7 := hlt; have f8 := hz); go_simp; first | done | with_reducible rfl)); simp only [Act.put, List.setIfInBounds_toArray, List.set_cons_zero, List.set_cons_succ])
          refine wpAnyH_done (by kernel_rfl) ?_ _
          go_wp2_with fail
          go_roundw
          case rel => exact ⟨k + 1, by omega, by go_num, maysTo_more HTO.out HT.out HV.out HR1.out, hS⟩
          case measure => simp [intOf]; omega
        · have hz : ((v.k : Int) != 0) = true := by simp; omega
          by_cases hkt : v.k = t.toNat
          · have hr1 : rmay t v = true := by rw [HRM.out]; simp [hkt]
            have HR1 := Lib.hid hr1
            have hq : ((v.k : Int) != (t.toNat : Int)) = false := by simp; omega
            clear hr1 HRM hkt h0
            refine ah_start 26 (fun w' => Below w.heap.size w w') rfl (by kernel_rfl) hbel.drew ?_ ; intro hS
            (refine mv_val 0 (v := ?_) rfl (by kernel_rfl) (by kernel_rfl) (by kernel_rfl) (fun _ _ _ h => h) (by rfl) hS ?_ ?_; rotate_left; (focus (intro w hSw; (try dsimp only at hSw); (have f1 := (F1 w hSw).1; have f2 := (F1 w hSw).2.1; have f3 := (F1 w hSw).2.2; have f4 := F2 w hSw; have f7 := hlt; have f8 := hz; have f9 := hq); go_simp; first | done | with_reducible rfl)); simp only [Act.put, List.setIfInBounds_toArray, List.set_cons_zero, List.set_cons_succ])
            (refine mv_val 1 (v := ?_) rfl (by kernel_rfl) (by kernel_rfl) (by kernel_rfl) (fun _ _ _ h => h) (by rfl) hS ?_ ?_; rotate_left; (focus (intro w hSw; (try dsimp only at hSw); (have f1 := (F1 w hSw).1; have f2 := (F1 w hSw).2.1; have f3 := (F1 w hSw).2.2; have f4 := F2 w hSw; have f7 := hlt; have f8 := hz; have f9 := hq); go_simp; first | done | with_reducible rfl)); simp only [Act.put, List.setIfInBounds_toArray, List.set_cons_zero, List.set_cons_succ])
            (refine mv_val 2 (v := ?_) rfl (by kernel_rfl) (by kernel_rfl) (by kernel_rfl) (fun _ _ _ h => h) (by rfl) hS ?_ ?_; rotate_left; (focus (intro w hSw; (try dsimp only at hSw); (have f1 := (F1 w hSw).1; have f2 := (F1 w hSw).2.1; have f3 := (F1 w hSw).2.2; have f4 := F2 w hSw; have f7 := hlt; have f8 := hz; have f9 := hq); go_simp; first | done | with_reducible rfl)); simp only [Act.put, List.setIfInBounds_toArray, List.set_cons_zero, List.set_cons_succ])
            (refine mv_val 3 (v := ?_) rfl (by kernel_rfl) (by kernel_rfl) (by kernel_rfl) (fun _ _ _ h => h) (by rfl) hS ?_ ?_; rotate_left; (focus (intro w hSw; (try dsimp only at hSw); (have f1 := (F1 w hSw).1; have f2 := (F1 w hSw).2.1; have f3 := (F1 w hSw).2.2; have f4 := F2 w hSw; have f7 := hlt; have f8 := hz; have f9 := hq); go_simp; first | done | with_reducible rfl)); simp only [Act.put, List.setIfInBounds_toArray, List.set_cons_zero, List.set_cons_succ])
            (refine mv_call 4 (f := ?_) (args := ?_) rfl (by kernel_rfl) (by rfl) ?_ ?_; rotate_left 2; (focus (go_simp; first | done | with_reducible rfl | (refine ⟨?_, ?_⟩ <;> with_reducible rfl))))
            refine (HM.out _).mono ?_; rintro e w2 ⟨rfl, hb2⟩
            have hS2 : Below w.heap.size w w2 := hS.trans (hb2.mono hS.size)
            refine ⟨_, rfl, hS2, ?_⟩
            replace hS := hS2
            simp only [Act.put, List.setIfInBounds_toArray, List.set_cons_zero, List.set_cons_succ]
            (refine mv_val 5 (v := ?_) rfl (by kernel_rfl) (by kernel_rfl) (by kernel_rfl) (fun _ _ _ h => h) (by rfl) hS ?_ ?_; rotate_left; (focus (intro w hSw; (try dsimp only at hSw); (have f1 := (F1 w hSw).1; have f2 := (F1 w hSw).2.1; have f3 := (F1 w hSw).2.2; have f4 := F2 w hSw; have f7 := hlt; have f8 := hz; have f9 := hq); go_simp; first | done | with_reducible rfl)); simp only [Act.put, List.setIfInBounds_toArray, List.set_cons_zero, List.set_cons_succ])
            (refine mv_val 6 (v := ?_) rfl (by kernel_rfl) (by kernel_rfl) (by kernel_rfl) (fun _ _ _ h => h) (by rfl) hS ?_ ?_; rotate_left; (focus (intro w hSw; (try dsimp only at hSw); (have f1 := (F1 w hSw).1; have f2 := (F1 w hSw).2.1; have f3 := (F1 w hSw).2.2; have f4 := F2 w hSw; have f7 := hlt; have f8 := hz; have f9 := hq); go_simp; first | done | with_reducible rfl)); simp only [Act.put, List.setIfInBounds_toArray, List.set_cons_zero, List.set_cons_succ])
            (refine mv_val 7 (v := ?_) rfl (by kernel_rfl) (by kernel_rfl) (by kernel_rfl) (fun _ _ _ h => h) (by rfl) hS ?_ ?_; rotate_left; (focus (intro w hSw; (try dsimp only at hSw); (have f1 := (F1 w hSw).1; have f2 := (F1 w hSw).2.1; have f3 := (F1 w hSw).2.2; have f4 := F2 w hSw; have f7 := hlt; have f8 := hz; have f9 := hq); go_simp; first | done | with_reducible rfl)); simp only [Act.put, List.setIfInBounds_toArray, List.set_cons_zero, List.set_cons_succ])
            (refine mv_val 8 (v := ?_) rfl (by kernel_rfl) (by kernel_rfl) (by kernel_rfl) (fun _ _ _ h => h) (by rfl) hS ?_ ?_; rotate_left; (focus (intro w hSw; (try dsimp only at hSw); (have f1 := (F1 w hSw).1; have f2 := (F1 w hSw).2.1; have f3 := (F1 w hSw).2.2; have f4 := F2 w hSw; have f7 := hlt; have f8 := hz; have f9 := hq); go_simp; first | done | with_reducible rfl)); simp only [Act.put, List.setIfInBounds_toArray, List.set_cons_zero, List.set_cons_succ])
            (refine mv_val 9 (v := ?_) rfl (by kernel_rfl) (by kernel_rfl) (by kernel_rfl) (fun _ _ _ h => h) (by rfl) hS ?_ ?_; rotate_left; (focus (intro w hSw; (try dsimp only at hSw); (have f1 := (F1 w hSw).1; have f2 := (F1 w hSw).2.1; have f3 := (F1 w hSw).2.2; have f4 := F2 w hSw; have f7 := hlt; have f8 := hz; have f9 := hq); go_simp; first | done | with_reducible rfl)); simp only [Act.put, List.setIfInBounds_toArray, List.set_cons_zero, List.set_cons_succ])
            (refine mv_val 10 (v := ?_) rfl (by kernel_rfl) (by kernel_rfl) (by kernel_rfl) (fun _ _ _ h => h) (by rfl) hS ?_ ?_; rotate_left; (focus (intro w hSw; (try dsimp only at hSw); (have f1 := (F1 w hSw).1; have f2 := (F1 w hSw).2.1; have f3 := (F1 w hSw).2.2; have f4 := F2 w hSw; have f7 := hlt; have f8 := hz; have f9 := hq); go_simp; first | done | with_reducible rfl)); simp only [Act.put, List.setIfInBounds_toArray, List.set_cons_zero, List.set_cons_succ])
            (refine mv_val 11 (v := ?_) rfl (by kernel_rfl) (by kernel_rfl) (by kernel_rfl) (fun _ _ _ h => h) (by rfl) hS ?_ ?_; rotate_left; (focus (intro w hSw; (try dsimp only at hSw); (have f1 := (F1 w hSw).1; have f2 := (F1 w hSw).2.1; have f3 := (F1 w hSw).2.2; have f4 := F2 w hSw; have f7 := hlt; have f8 := hz; have f9 := hq); go_simp; first | done | with_reducible rfl)); simp only [Act.put, List.setIfInBounds_toArray, List.set_cons_zero, List.set_cons_succ])
            (refine mv_val 12 (v := ?_) rfl (by kernel_rfl) (by kernel_rfl) (by kernel_rfl) (fun _ _ _ h => h) (by rfl) hS ?_ ?_; rotate_left; (focus (intro w hSw; (try dsimp only at hSw); (have f1 := (F1 w hSw).1; have f2 := (F1 w hSw).2.1; have f3 := (F1 w hSw).2.2; have f4 := F2 w hSw; have f7 := hlt; have f8 := hz; have f9 := hq); go_simp; first | done | with_reducible rfl)); simp only [Act.put, List.setIfInBounds_toArray, List.set_cons_zero, List.set_cons_succ])
            (refine mv_val 13 (v := ?_) rfl (by kernel_rfl) (by kernel_rfl) (by kernel_rfl) (fun _ _ _ h => h) (by rfl) hS ?_ ?_; rotate_left; (focus (intro w hSw; (try dsimp only at hSw); (have f1 := (F1 w hSw).1; have f2 := (F1 w hSw).2.1; have f3 := (F1 w hSw).2.2; have f4 := F2 w hSw; have f7 := hlt; have f8 := hz; have f9 := hq); go_simp; first | done | with_reducible rfl)); simp only [Act.put, List.setIfInBounds_toArray, List.set_cons_zero, List.set_cons_succ])
            (refine mv_val 14 (v := ?_) rfl (by kernel_rfl) (by kernel_rfl) (by kernel_rfl) (fun _ _ _ h => h) (by rfl) hS ?_ ?_; rotate_left; (focus (intro w hSw; (try dsimp only at hSw); (have f1 := (F1 w hSw).1; have f2 := (F1 w hSw).2.1; have f3 := (F1 w hSw).2.2; have f4 := F2 w hSw; have f7 := hlt; have f8 := hz; have f9 := hq); go_simp; first | done | with_reducible rfl)); simp only [Act.put, List.setIfInBounds_toArray, List.set_cons_zero, List.set_cons_succ])
            (refine mv_val 15 (v := ?_) rfl (by kernel_rfl) (by kernel_rfl) (by kernel_rfl) (fun _ _ _ h => h) (by rfl) hS ?_ ?_; rotate_left; (focus (intro w hSw; (try dsimp only at hSw); (have f1 := (F1 w hSw).1; have f2 := (F1 w hSw).2.1; have f3 := (F1 w hSw).2.2; have f4 := F2 w hSw; have f7 := hlt; have f8 := hz; have f9 := hq); go_simp; first | done | with_reducible rfl)); simp only [Act.put, List.setIfInBounds_toArray, List.set_cons_zero, List.set_cons_succ])
            (refine mv_val 16 (v := ?_) rfl (by kernel_rfl) (by kernel_rfl) (by kernel_rfl) (fun _ _ _ h => h) (by rfl) hS ?_ ?_; rotate_left; (focus (intro w hSw; (try dsimp only at hSw); (have f1 := (F1 w hSw).1; have f2 := (F1 w hSw).2.1; have f3 := (F1 w hSw).2.2; have f4 := F2 w hSw; have f7 := hlt; have f8 := hz; have f9 := hq); go_simp; first | done | with_reducible rfl)); simp only [Act.put, List.setIfInBounds_toArray, List.set_cons_zero, List.set_cons_succ])
            (refine mv_val 17 (v := ?_) rfl (by kernel_rfl) (by kernel_rfl) (by kernel_rfl) (fun _ _ _ h => h) (by rfl) hS ?_ ?_; rotate_left; (focus (intro w hSw; (try dsimp only at hSw); (have f1 := (F1 w hSw).1; have f2 := (F1 w hSw).2.1; have f3 := (F1 w hSw).2.2; have f4 := F2 w hSw; have f7 := hlt; have f8 := hz; have f9 := hq); go_simp; first | done | with_reducible rfl)); simp only [Act.put, List.setIfInBounds_toArray, List.set_cons_zero, List.set_cons_succ])
            (refine mv_val 18 (v := ?_) rfl (by kernel_rfl) (by kernel_rfl) (by kernel_rfl) (fun _ _ _ h => h) (by rfl) hS ?_ ?_; rotate_left; (focus (intro w hSw; (try dsimp only at hSw); (have f1 := (F1 w hSw).1; have f2 := (F1 w hSw).2.1; have f3 := (F1 w hSw).2.2; have f4 := F2 w hSw; have f7 := hlt; have f8 := hz; have f9 := hq); go_simp; first | done | with_reducible rfl)); simp only [Act.put, List.setIfInBounds_toArray, List.set_cons_zero, List.set_cons_succ])
            (refine mv_val 19 (v := ?_) rfl (by kernel_rfl) (by kernel_rfl) (by kernel_rfl) (fun _ _ _ h => h) (by rfl) hS ?_ ?_; rotate_left; (focus (intro w hSw; (try dsimp only at hSw); (have f1 := (F1 w hSw).1; have f2 := (F1 w hSw).2.1; have f3 := (F1 w hSw).2.2; have f4 := F2 w hSw; have f7 := hlt; have f8 := hz; have f9 := hq); go_simp; first | done | with_reducible rfl)); simp only [Act.put, List.setIfInBounds_toArray, List.set_cons_zero, List.set_cons_succ])
            (refine mv_val 20 (v := ?_) rfl (by kernel_rfl) (by kernel_rfl) (by kernel_rfl) (fun _ _ _ h => h) (by rfl) hS ?_ ?_; rotate_left; (focus (intro w hSw; (try dsimp only at hSw); (have f1 := (F1 w hSw).1; have f2 := (F1 w hSw).2.1; have f3 := (F1 w hSw).2.2; have f4 := F2 w hSw; have f7 := hlt; have f8 := hz; have f9 := hq); go_simp; first | done | with_reducible rfl)); simp only [Act.put, List.setIfInBounds_toArray, List.set_cons_zero, List.set_cons_succ])
            (refine mv_val 21 (v := ?_) rfl (by kernel_rfl) (by kernel_rfl) (by kernel_rfl) (fun _ _ _ h => h) (by rfl) hS ?_ ?_; rotate_left; (focus (intro w hSw; (try dsimp only at hSw); (have f1 := (F1 w hSw).1; have f2 := (F1 w hSw).2.1; have f3 := (F1 w hSw).2.2; have f4 := F2 w hSw; have f7 := hlt; have f8 := hz; have f9 := hq); go_simp; first | done | with_reducible rfl)); simp only [Act.put, List.setIfInBounds_toArray, List.set_cons_zero, List.set_cons_succ])
            (refine mv_val 22 (v := ?_) rfl (by kernel_rfl) (by kernel_rfl) (by kernel_rfl) (fun _ _ _ h => h) (by rfl) hS ?_ ?_; rotate_left; (focus (intro w hSw; (try dsimp only at hSw); (have f1 := (F1 w hSw).1; have f2 := (F1 w hSw).2.1; have f3 := (F1 w hSw).2.2; have f4 := F2 w hSw; have f7 := hlt; have f8 := hz; have f9 := hq); go_simp; first | done | with_reducible rfl)); simp only [Act.put, List.setIfInBounds_toArray, List.set_cons_zero, List.set_cons_succ])
            (refine mv_val 23 (v := ?_) rfl (by kernel_rfl) (by kernel_rfl) (by kernel_rfl) (fun _ _ _ h => h) (by rfl) hS ?_ ?_; rotate_left; (focus (intro w hSw; (try dsimp only at hSw); (have f1 := (F1 w hSw).1; have f2 := (F1 w hSw).2.1; have f3 := (F1 w hSw).2.2; have f4 := F2 w hSw; have f7 := hlt; have f8 := hz; have f9 := hq); go_simp; first | done | with_reducible rfl)); simp only [Act.put, List.setIfInBounds_toArray, List.set_cons_zero, List.set_cons_succ])
            (refine mv_val 24 (v := ?_) rfl (by kernel_rfl) (by kernel_rfl) (by kernel_rfl) (fun _ _ _ h => h) (by rfl) hS ?_ ?_; rotate_left; (focus (intro w hSw; (try dsimp only at hSw); (have f1 := (F1 w hSw).1; have f2 := (F1 w hSw).2.1; have f3 := (F1 w hSw).2.2; have f4 := F2 w hSw; have f7 := hlt; have f8 := hz; have f9 := hq); go_simp; first | done | with_reducible rfl)); simp only [Act.put, List.setIfInBounds_toArray, List.set_cons_zero, List.set_cons_succ])
            (refine mv_val 25 (v := ?_) rfl (by kernel_rfl) (by kernel_rfl) (by kernel_rfl) (fun _ _ _ h => h) (by rfl) hS ?_ ?_; rotate_left; (focus (intro w hSw; (try dsimp only at hSw); (have f1 := (F1 w hSw).1; have f2 := (F1 w hSw).2.1; have f3 := (F1 w hSw).2.2; have f4 := F2 w hSw; have f7 := hlt; have f8 := hz; have f9 := hq); go_simp; first | done | with_reducible rfl)); simp only [Act.put, List.setIfInBounds_toArray, List.set_cons_zero, List.set_cons_succ])
            refine wpAnyH_done (by kernel_rfl) ?_ _
            go_wp2_with fail
            go_roundw
            case rel => exact ⟨k + 1, by omega, by go_num, maysTo_more HTO.out HT.out HV.out HR1.out, hS⟩
            case measure => simp [intOf]; omega
          · have hr1 : rmay t v = false := by rw [HRM.out]; simp [hkt, h0]
            have he : bl = false := by rw [HBL.out]; exact mays_no HT.out HV.out hr1
            subst he
            have hq : ((v.k : Int) != (t.toNat : Int)) = true := by simp; omega
            clear hr1 HRM hkt h0
            refine ah_start 26 (fun w' => Below w.heap.size w w') rfl (by kernel_rfl) hbel.drew ?_ ; intro hS
            (refine mv_val 0 (v := ?_) rfl (by kernel_rfl) (by kernel_rfl) (by kernel_rfl) (fun _ _ _ h => h) (by rfl) hS ?_ ?_; rotate_left; (focus (intro w hSw; (try dsimp only at hSw); (have f1 := (F1 w hSw).1; have f2 := (F1 w hSw).2.1; have f3 := (F1 w hSw).2.2; have f4 := F2 w hSw; have f7 := hlt; have f8 := hz; have f9 := hq); go_simp; first | done | with_reducible rfl)); simp only [Act.put, List.setIfInBounds_toArray, List.set_cons_zero, List.set_cons_succ])
            (refine mv_val 1 (v := ?_) rfl (by kernel_rfl) (by kernel_rfl) (by kernel_rfl) (fun _ _ _ h => h) (by rfl) hS ?_ ?_; rotate_left; (focus (intro w hSw; (try dsimp only at hSw); (have f1 := (F1 w hSw).1; have f2 := (F1 w hSw).2.1; have f3 := (F1 w hSw).2.2; have f4 := F2 w hSw; have f7 := hlt; have f8 := hz; have f9 := hq); go_simp; first | done | with_reducible rfl)); simp only [Act.put, List.setIfInBounds_toArray, List.set_cons_zero, List.set_cons_succ])
            (refine mv_val 2 (v := ?_) rfl (by kernel_rfl) (by kernel_rfl) (by kernel_rfl) (fun _ _ _ h => h) (by rfl) hS ?_ ?_; rotate_left; (focus (intro w hSw; (try dsimp only at hSw); (have f1 := (F1 w hSw).1; have f2 := (F1 w hSw).2.1; have f3 := (F1 w hSw).2.2; have f4 := F2 w hSw; have f7 := hlt; have f8 := hz; have f9 := hq); go_simp; first | done | with_reducible rfl)); simp only [Act.put, List.setIfInBounds_toArray, List.set_cons_zero, List.set_cons_succ])
            (refine mv_val 3 (v := ?_) rfl (by kernel_rfl) (by kernel_rfl) (by kernel_rfl) (fun _ _ _ h => h) (by rfl) hS ?_ ?_; rotate_left; (focus (intro w hSw; (try dsimp only at hSw); (have f1 := (F1 w hSw).1; have f2 := (F1 w hSw).2.1; have f3 := (F1 w hSw).2.2; have f4 := F2 w hSw; have f7 := hlt; have f8 := hz; have f9 := hq); go_simp; first | done | with_reducible rfl)); simp only [Act.put, List.setIfInBounds_toArray, List.set_cons_zero, List.set_cons_succ])
            (refine mv_call 4 (f := ?_) (args := ?_) rfl (by kernel_rfl) (by rfl) ?_ ?_; rotate_left 2; (focus (go_simp; first | done | with_reducible rfl | (refine ⟨?_, ?_⟩ <;> with_reducible rfl))))
            refine (HM.out _).mono ?_; rintro e w2 ⟨rfl, hb2⟩
            have hS2 : Below w.heap.size w w2 := hS.trans (hb2.mono hS.size)
            refine ⟨_, rfl, hS2, ?_⟩
            replace hS := hS2
            simp only [Act.put, List.setIfInBounds_toArray, List.set_cons_zero, List.set_cons_succ]
            (refine mv_val 5 (v := ?_) rfl (by kernel_rfl) (by kernel_rfl) (by kernel_rfl) (fun _ _ _ h => h) (by rfl) hS ?_ ?_; rotate_left; (focus (intro w hSw; (try dsimp only at hSw); (have f1 := (F1 w hSw).1; have f2 := (F1 w hSw).2.1; have f3 := (F1 w hSw).2.2; have f4 := F2 w hSw; have f7 := hlt; have f8 := hz; have f9 := hq); go_simp; first | done | with_reducible rfl)); simp only [Act.put, List.setIfInBounds_toArray, List.set_cons_zero, List.set_cons_succ])
            (refine mv_val 6 (v := ?_) rfl (by kernel_rfl) (by kernel_rfl) (by kernel_rfl) (fun _ _ _ h => h) (by rfl) hS ?_ ?_; rotate_left; (focus (intro w hSw; (try dsimp only at hSw); (have f1 := (F1 w hSw).1; have f2 := (F1 w hSw).2.1; have f3 := (F1 w hSw).2.2; have f4 := F2 w hSw; have f7 := hlt; have f8 := hz; have f9 := hq); go_simp; first | done | with_reducible rfl)); simp only [Act.put, List.setIfInBounds_toArray, List.set_cons_zero, List.set_cons_succ])
            (refine mv_val 7 (v := ?_) rfl (by kernel_rfl) (by kernel_rfl) (by kernel_rfl) (fun _ _ _ h => h) (by rfl) hS ?_ ?_; rotate_left; (focus (intro w hSw; (try dsimp only at hSw); (have f1 := (F1 w hSw).1; have f2 := (F1 w hSw).2.1; have f3 := (F1 w hSw).2.2; have f4 := F2 w hSw; have f7 := hlt; have f8 := hz; have f9 := hq); go_simp; first | done | with_reducible rfl)); simp only [Act.put, List.setIfInBounds_toArray, List.set_cons_zero, List.set_cons_succ])
            (refine mv_val 8 (v := ?_) rfl (by kernel_rfl) (by kernel_rfl) (by kernel_rfl) (fun _ _ _ h => h) (by rfl) hS ?_ ?_; rotate_left; (focus (intro w hSw; (try dsimp only at hSw); (have f1 := (F1 w hSw).1; have f2 := (F1 w hSw).2.1; have f3 := (F1 w hSw).2.2; have f4 := F2 w hSw; have f7 := hlt; have f8 := hz; have f9 := hq); go_simp; first | done | with_reducible rfl)); simp only [Act.put, List.setIfInBounds_toArray, List.set_cons_zero, List.set_cons_succ])
            (refine mv_val 9 (v := ?_) rfl (by kernel_rfl) (by kernel_rfl) (by kernel_rfl) (fun _ _ _ h => h) (by rfl) hS ?_ ?_; rotate_left; (focus (intro w hSw; (try dsimp only at hSw); (have f1 := (F1 w hSw).1; have f2 := (F1 w hSw).2.1; have f3 := (F1 w hSw).2.2; have f4 := F2 w hSw; have f7 := hlt; have f8 := hz; have f9 := hq); go_simp; first | done | with_reducible rfl)); simp only [Act.put, List.setIfInBounds_toArray, List.set_cons_zero, List.set_cons_succ])
            (refine mv_val 10 (v := ?_) rfl (by kernel_rfl) (by kernel_rfl) (by kernel_rfl) (fun _ _ _ h => h) (by rfl) hS ?_ ?_; rotate_left; (focus (intro w hSw; (try dsimp only at hSw); (have f1 := (F1 w hSw).1; have f2 := (F1 w hSw).2.1; have f3 := (F1 w hSw).2.2; have f4 := F2 w hSw; have f7 := hlt; have f8 := hz; have f9 := hq); go_simp; first | done | with_reducible rfl)); simp only [Act.put, List.setIfInBounds_toArray, List.set_cons_zero, List.set_cons_succ])
            (refine mv_val 11 (v := ?_) rfl (by kernel_rfl) (by kernel_rfl) (by kernel_rfl) (fun _ _ _ h => h) (by rfl) hS ?_ ?_; rotate_left; (focus (intro w hSw; (try dsimp only at hSw); (have f1 := (F1 w hSw).1; have f2 := (F1 w hSw).2.1; have f3 := (F1 w hSw).2.2; have f4 := F2 w hSw; have f7 := hlt; have f8 := hz; have f9 := hq); go_simp; first | done | with_reducible rfl)); simp only [Act.put, List.setIfInBounds_toArray, List.set_cons_zero, List.set_cons_succ])
            (refine mv_val 12 (v := ?_) rfl (by kernel_rfl) (by kernel_rfl) (by kernel_rfl) (fun _ _ _ h => h) (by rfl) hS ?_ ?_; rotate_left; (focus (intro w hSw; (try dsimp only at hSw); (have f1 := (F1 w hSw).1; have f2 := (F1 w hSw).2.1; have f3 := (F1 w hSw).2.2; have f4 := F2 w hSw; have f7 := hlt; have f8 := hz; have f9 := hq); go_simp; first | done | with_reducible rfl)); simp only [Act.put, List.setIfInBounds_toArray, List.set_cons_zero, List.set_cons_succ])
            (refine mv_val 13 (v := ?_) rfl (by kernel_rfl) (by kernel_rfl) (by kernel_rfl) (fun _ _ _ h => h) (by rfl) hS ?_ ?_; rotate_left; (focus (intro w hSw; (try dsimp only at hSw); (have f1 := (F1 w hSw).1; have f2 := (F1 w hSw).2.1; have f3 := (F1 w hSw).2.2; have f4 := F2 w hSw; have f7 := hlt; have f8 := hz; have f9 := hq); go_simp; first | done | with_reducible rfl)); simp only [Act.put, List.setIfInBounds_toArray, List.set_cons_zero, List.set_cons_succ])
            (refine mv_val 14 (v := ?_) rfl (by kernel_rfl) (by kernel_rfl) (by kernel_rfl) (fun _ _ _ h => h) (by rfl) hS ?_ ?_; rotate_left; (focus (intro w hSw; (try dsimp only at hSw); (have f1 := (F1 w hSw).1; have f2 := (F1 w hSw).2.1; have f3 := (F1 w hSw).2.2; have f4 := F2 w hSw; have f7 := hlt; have f8 := hz; have f9 := hq); go_simp; first | done | with_reducible rfl)); simp only [Act.put, List.setIfInBounds_toArray, List.set_cons_zero, List.set_cons_succ])
            (refine mv_val 15 (v := ?_) rfl (by kernel_rfl) (by kernel_rfl) (by kernel_rfl) (fun _ _ _ h => h) (by rfl) hS ?_ ?_; rotate_left; (focus (intro w hSw; (try dsimp only at hSw); (have f1 := (F1 w hSw).1; have f2 := (F1 w hSw).2.1; have f3 := (F1 w hSw).2.2; have f4 := F2 w hSw; have f7 := hlt; have f8 := hz; have f9 := hq); go_simp; first | done | with_reducible rfl)); simp only [Act.put, List.setIfInBounds_toArray, List.set_cons_zero, List.set_cons_succ])
            (refine mv_val 16 (v := ?_) rfl (by kernel_rfl) (by kernel_rfl) (by kernel_rfl) (fun _ _ _ h => h) (by rfl) hS ?_ ?_; rotate_left; (focus (intro w hSw; (try dsimp only at hSw); (have f1 := (F1 w hSw).1; have f2 := (F1 w hSw).2.1; have f3 := (F1 w hSw).2.2; have f4 := F2 w hSw; have f7 := hlt; have f8 := hz; have f9 := hq); go_simp; first | done | with_reducible rfl)); simp only [Act.put, List.setIfInBounds_toArray, List.set_cons_zero, List.set_cons_succ])
            (refine mv_val 17 (v := ?_) rfl (by kernel_rfl) (by kernel_rfl) (by kernel_rfl) (fun _ _ _ h => h) (by rfl) hS ?_ ?_; rotate_left; (focus (intro w hSw; (try dsimp only at hSw); (have f1 := (F1 w hSw).1; have f2 := (F1 w hSw).2.1; have f3 := (F1 w hSw).2.2; have f4 := F2 w hSw; have f7 := hlt; have f8 := hz; have f9 := hq); go_simp; first | done | with_reducible rfl)); simp only [Act.put, List.setIfInBounds_toArray, List.set_cons_zero, List.set_cons_succ])
            (refine mv_val 18 (v := ?_) rfl (by kernel_rfl) (by kernel_rfl) (by kernel_rfl) (fun _ _ _ h => h) (by rfl) hS ?_ ?_; rotate_left; (focus (intro w hSw; (try dsimp only at hSw); (have f1 := (F1 w hSw).1; have f2 := (F1 w hSw).2.1; have f3 := (F1 w hSw).2.2; have f4 := F2 w hSw; have f7 := hlt; have f8 := hz; have f9 := hq); go_simp; first | done | with_reducible rfl)); simp only [Act.put, List.setIfInBounds_toArray, List.set_cons_zero, List.set_cons_succ])
            (refine mv_val 19 (v := ?_) rfl (by kernel_rfl) (by kernel_rfl) (by kernel_rfl) (fun _ _ _ h => h) (by rfl) hS ?_ ?_; rotate_left; (focus (intro w hSw; (try dsimp only at hSw); (have f1 := (F1 w hSw).1; have f2 := (F1 w hSw).2.1; have f3 := (F1 w hSw).2.2; have f4 := F2 w hSw; have f7 := hlt; have f8 := hz; have f9 := hq); go_simp; first | done | with_reducible rfl)); simp only [Act.put, List.setIfInBounds_toArray, List.set_cons_zero, List.set_cons_succ])
            (refine mv_val 20 (v := ?_) rfl (by kernel_rfl) (by kernel_rfl) (by kernel_rfl) (fun _ _ _ h => h) (by rfl) hS ?_ ?_; rotate_left; (focus (intro w hSw; (try dsimp only at hSw); (have f1 := (F1 w hSw).1; have f2 := (F1 w hSw).2.1; have f3 := (F1 w hSw).2.2; have f4 := F2 w hSw; have f7 := hlt; have f8 := hz; have f9 := hq); go_simp; first | done | with_reducible rfl)); simp only [Act.put, List.setIfInBounds_toArray, List.set_cons_zero, List.set_cons_succ])
            (refine mv_val 21 (v := ?_) rfl (by kernel_rfl) (by kernel_rfl) (by kernel_rfl) (fun _ _ _ h => h) (by rfl) hS ?_ ?_; rotate_left; (focus (intro w hSw; (try dsimp only at hSw); (have f1 := (F1 w hSw).1; have f2 := (F1 w hSw).2.1; have f3 := (F1 w hSw).2.2; have f4 := F2 w hSw; have f7 := hlt; have f8 := hz; have f9 := hq); go_simp; first | done | with_reducible rfl)); simp only [Act.put, List.setIfInBounds_toArray, List.set_cons_zero, List.set_cons_succ])
            (refine mv_val 22 (v := ?_) rfl (by kernel_rfl) (by kernel_rfl) (by kernel_rfl) (fun _ _ _ h => h) (by rfl) hS ?_ ?_; rotate_left; (focus (intro w hSw; (try dsimp only at hSw); (have f1 := (F1 w hSw).1; have f2 := (F1 w hSw).2.1; have f3 := (F1 w hSw).2.2; have f4 := F2 w hSw; have f7 := hlt; have f8 := hz; have f9 := hq); go_simp; first | done | with_reducible rfl)); simp only [Act.put, List.setIfInBounds_toArray, List.set_cons_zero, List.set_cons_succ])
            (refine mv_val 23 (v := ?_) rfl (by kernel_rfl) (by kernel_rfl) (by kernel_rfl) (fun _ _ _ h => h) (by rfl) hS ?_ ?_; rotate_left; (focus (intro w hSw; (try dsimp only at hSw); (have f1 := (F1 w hSw).1; have f2 := (F1 w hSw).2.1; have f3 := (F1 w hSw).2.2; have f4 := F2 w hSw; have f7 := hlt; have f8 := hz; have f9 := hq); go_simp; first | done | with_reducible rfl)); simp only [Act.put, List.setIfInBounds_toArray, List.set_cons_zero, List.set_cons_succ])
            (refine mv_val 24 (v := ?_) rfl (by kernel_rfl) (by kernel_rfl) (by kernel_rfl) (fun _ _ _ h => h) (by rfl) hS ?_ ?_; rotate_left; (focus (intro w hSw; (try dsimp only at hSw); (have f1 := (F1 w hSw).1; have f2 := (F1 w hSw).2.1; have f3 := (F1 w hSw).2.2; have f4 := F2 w hSw; have f7 := hlt; have f8 := hz; have f9 := hq); go_simp; first | done | with_reducible rfl)); simp only [Act.put, List.setIfInBounds_toArray, List.set_cons_zero, List.set_cons_succ])
            (refine mv_val 25 (v := ?_) rfl (by kernel_rfl) (by kernel_rfl) (by kernel_rfl) (fun _ _ _ h => h) (by rfl) hS ?_ ?_; rotate_left; (focus (intro w hSw; (try dsimp only at hSw); (have f1 := (F1 w hSw).1; have f2 := (F1 w hSw).2.1; have f3 := (F1 w hSw).2.2; have f4 := F2 w hSw; have f7 := hlt; have f8 := hz; have f9 := hq); go_simp; first | done | with_reducible rfl)); simp only [Act.put, List.setIfInBounds_toArray, List.set_cons_zero, List.set_cons_succ])
            refine wpAnyH_done (by kernel_rfl) ?_ _
            go_wp2_with fail
            go_ret
            exact ⟨rfl, hS⟩
    · have hkn : k = n := by omega
      have he : bl = true := by rw [HBL.out]; exact maysTo_all HTO.out (by rw [← HN.out]; omega)
      subst he
      subst hkn
      go_wp2_with fail
      go_ret
      exact ⟨rfl, hbel⟩

/-! ### append of a string -/
theorem strCells_eq (t : List UInt8) : Lib.strCells ⟨t.toArray⟩ = cells t := by simp [Lib.strCells, cells]
theorem run_app_str (w : World) (ty : TypeId) {base : Nat} {v : Value} {n : Nat} {xs : List Value} (hown : w.ownsRow base 5 1 v n xs) (t : List UInt8) (h63 : n + t.length ≤ 4611686018427) (hbase : base ≤ w.heap.size) :
    ∃ v' w', (Builtin.append_ #[22, 9] ty #[v, .string ⟨t.toArray⟩]).run Try.prog w = .ok v' w' ∧ w'.ownsRow base 5 1 v' (n + t.length) (xs ++ cells t) ∧ w.grownBy w' v.ownBlock := by
  obtain ⟨i0, hi, hz0, hz1, hz2⟩ := info_parts Try.infoU8
  have hsz : (⟨t.toArray⟩ : ByteArray).size = t.length := by simp [ByteArray.size]
  obtain ⟨v', w', hrun, h2, h3, _⟩ := Lib.run_append_own_string (P := Try.prog) w base 22 9 ty 5 i0 Try.underlying22 Try.underlying9 hi hz0 hz1 hz2 v n xs hown ⟨t.toArray⟩ (by rw [hsz]; unfold maxLen; omega) (by rw [hsz]; omega) hbase
  rw [hsz, strCells_eq] at h2
  exact ⟨v', w', hrun, h2, h3⟩
theorem wp_app_str {w : World} {o : Oper} {a : Act} {k : Act → World → Prop} {Q : Exit → Act → World → Prop} (s x : Operand)
    (ho : o.op = .call { callee := .builtin .append, args := #[s, x], argTypes := #[22, 9] })
    {base : Nat} {v : Value} {n : Nat} {xs : List Value} (hown : w.ownsRow base 5 1 v n xs) (hs : a.eval s = v) {t : List UInt8} (hx : a.eval x = txt t) (h63 : n + t.length ≤ 4611686018427) (hbase : base ≤ w.heap.size)
    (h : ∀ v' w', w'.ownsRow base 5 1 v' (n + t.length) (xs ++ cells t) → w.grownBy w' v.ownBlock → k (a.put o.dst v') w') : o.wp Try.prog a w k Q := by
  obtain ⟨v', w', hrun, h2, h3⟩ := run_app_str w o.type hown t h63 hbase
  unfold Oper.wp execOp
  simp only [ho, resolve, invoke, builtin, Sem.run_bind, Sem.run_pure, Result.andThen_ok, List.map_toArray, List.map_cons, List.map_nil, hs, hx, hrun]
  exact h v' w' h2 h3
theorem wpList_app_str {w : World} {ops : Array Oper} {rest : List Oper} {o : Oper} {a : Act} {Q : Exit → Act → World → Prop} (hgd : o.guard = none) (s x : Operand)
    (ho : o.op = .call { callee := .builtin .append, args := #[s, x], argTypes := #[22, 9] })
    {base : Nat} {v : Value} {n : Nat} {xs : List Value} (hown : w.ownsRow base 5 1 v n xs) (hs : a.eval s = v) {t : List UInt8} (hx : a.eval x = txt t) (h63 : n + t.length ≤ 4611686018427) (hbase : base ≤ w.heap.size)
    (h : ∀ v' w', w'.ownsRow base 5 1 v' (n + t.length) (xs ++ cells t) → w.grownBy w' v.ownBlock → wpList Try.prog ops Q rest (a.put o.dst v') w') : wpList Try.prog ops Q (o :: rest) a w :=
  wpList_plain hgd fun _ hK => wp_app_str s x ho hown hs hx h63 hbase fun v' w' h2 h3 => hK _ _ (h v' w' h2 h3)

/-! ### the table of ways -/
def fnD : Value → Option (DataW Unit)
  | .func (.func n) a b => if a = #[] ∧ b = #[] then some (.lit (.int .i64 n)) else none
  | .nilFunc => some (.lit (.int .i64 (-1)))
  | _ => none
theorem fnD_inv {v : Value} {n : Nat} (h : fnD v = some (.lit (.int .i64 n))) : v = .func (.func n) #[] #[] := by
  unfold fnD at h
  split at h
  · rename_i m a b
    split at h
    · rename_i hc
      obtain ⟨rfl, rfl⟩ := hc
      simp at h
      have hmn : m = n := Int.ofNat.inj h
      rw [hmn]
    · cases h
  · simp at h
  · cases h
def wayE : Value → Option (DataW Unit × List MemPlace)
  | .agg ⟨[a, b]⟩ => match fnD a, fnD b with
    | some x, some y => some (.agg [x, y], [])
    | _, _ => none
  | _ => none
abbrev wd (m n : Nat) : DataW Unit := .agg [.lit (.int .i64 m), .lit (.int .i64 n)]
abbrev wv (m n : Nat) : Value := .agg #[.func (.func m) #[] #[], .func (.func n) #[] #[]]
theorem wayE_inv {v : Value} {m n : Nat} {ps : List MemPlace} (h : wayE v = some (wd m n, ps)) : v = wv m n := by
  unfold wayE at h
  split at h
  · rename_i a b
    split at h
    · rename_i x y hx hy
      simp only [Option.some.injEq, Prod.mk.injEq, DataW.agg.injEq, List.cons.injEq, and_true] at h
      obtain ⟨⟨rfl, rfl⟩, _⟩ := h
      rw [fnD_inv hx, fnD_inv hy]
    · cases h
  · cases h
/-- the table -/
abbrev wtab : DataW Unit := .map [(tk 1, wd 25 26), (tk 2, wd 27 30), (tk 3, wd 33 34)]
theorem zeroWay (w : World) : (zeroValue 47).run Try.prog w = .ok (.agg #[.nilFunc, .nilFunc]) w := by kernel_rfl
abbrev zway : DataW Unit := .agg [.lit (.int .i64 (-1)), .lit (.int .i64 (-1))]

/-- 'm[k]' where what the table holds is known -/
theorem wpList_lookup_tab {H : Type} {P : Program} (w : World) {ops : Array Oper} {rest : List Oper} {o : Oper} {a : Act} {Q : Exit → Act → World → Prop} (hg : o.guard = none) (m x : Operand) (t : TypeId) (hop : o.op = Op.lookup t m x false)
    (k e : TypeId) (K : Keyed P k) (ht : P.underlying t = some (.map k e)) (R : Value → Option (DataW H × List MemPlace)) {z : Value} (hz : (zeroValue e).run P w = .ok z w) (zd : DataW H) (zp : List MemPlace) (hzd : R z = some (zd, zp)) (b n : Nat) (D : DataW H)
    (hm : a.eval m = .map (some b)) (hown : w.ownsMap P k R b n D) (key : Value) (kl : Lit) (hx : a.eval x = key) (hkey : keyOf P k key = some kl) (val : Value) (hval : ∀ v ps, R v = some (D.atKey kl zd, ps) → v = val)
    (hK : wpList P ops Q rest (a.put o.dst val) w) : wpList P ops Q (o :: rest) a w := by
  refine wpList_plain hg fun K' hK' => ?_
  obtain ⟨v, ps, hrun, hv⟩ := hown.lookup K ht hz hzd hkey
  obtain rfl := hval v ps hv
  unfold Oper.wp
  simp [execOp, hop, hm, hx, hrun, Result.andThen]
  exact hK' _ _ hK

set_option maxRecDepth 100000 in
theorem ways_any (w : World) : Calls Try.prog 19 #[] w fun e w' => e = .returned (.map (some w.heap.size)) ∧ w'.ownsMap Try.prog 5 wayE w.heap.size 3 wtab ∧ Below w.heap.size w w' := by
  have hmm := @run_makeMap Try.prog
  go_enter Try.func19, Try.ntmps19
  have hown0 := World.ownsMap_made w Try.prog 5 wayE
  go_wp2_with (first
    | (refine wpList_insert_own _ rfl _ _ _ 41 rfl 5 47 law8 Try.underlying41 wayE w.heap.size 2 _ rfl hown2 (by unfold maxLen; omega) _ _ (tk 3) rfl rfl (key8 3) (wd 33 34) [] rfl ?_; intro w3 hown3 hg3)
    | (refine wpList_insert_own _ rfl _ _ _ 41 rfl 5 47 law8 Try.underlying41 wayE w.heap.size 1 _ rfl hown1 (by unfold maxLen; omega) _ _ (tk 2) rfl rfl (key8 2) (wd 27 30) [] rfl ?_; intro w2 hown2 hg2)
    | (refine wpList_insert_own _ rfl _ _ _ 41 rfl 5 47 law8 Try.underlying41 wayE w.heap.size 0 _ rfl hown0 (by unfold maxLen; omega) _ _ (tk 1) rfl rfl (key8 1) (wd 25 26) [] rfl ?_; intro w1 hown1 hg1))
  go_ret
  have hb : Below w.heap.size w w3 := ((((Below.refl _ w).alloc (Nat.le_refl _) _).grown hg1 (by simp) (fun k hk => by simp at hk; omega)).grown hg2 (by have := hg1.size; simp at this; omega) (fun k hk => by simp at hk; omega)).grown hg3 (by have := hg1.size; have := hg2.size; simp at *; omega) (fun k hk => by simp at hk; omega)
  exact ⟨rfl, hown3, hb⟩
theorem own_ne_map {H : Type} {P : Program} {k : TypeId} {R : Value → Option (DataW H × List MemPlace)} {w : World} {b m base n sz : Nat} {e : TypeId} {D : DataW H} {v : Value} {xs : List Value} (h : w.ownsRow base e sz v n xs) (hm : w.ownsMap P k R b m D) : v.ownBlock ≠ some b := by
  obtain ⟨es, clock, h1, _⟩ := hm
  rcases h.2 with ⟨rfl, _⟩ | ⟨g, cap, cur, rfl, _, hg, _⟩
  · simp [Value.ownBlock]
  · simp only [Value.ownBlock, ne_eq, Option.some.injEq]
    rintro rfl
    rw [h1] at hg; cases hg
end Go.Proofs.Ytfnbckgpldkgmaa

/- The walks of what the laws of layer 10 share: great, form, sp. No condition but those named. -/
import Derived.Test.YtiohdacbnigpkaaSetW
import Derived.Test.YtiohdacbnigpkaaSR7
namespace Go.Proofs.Ytiohdacbnigpkaa
open Go.RowKit Go.Maps
set_option linter.unusedVariables false
set_option linter.unusedSimpArgs false

theorem Rd.next {w w' : World} {A : Option Addr} {xs : List Value} (h : Rd w w.heap.size A xs) (hb : Below w.heap.size w w') : Rd w' w'.heap.size A xs := (h.below hb).more hb.size
abbrev sl3 (p : Option Addr × Nat × Nat) : Value := .slice p.1 p.2.1 p.2.2
theorem rd_sl {w : World} {B : Nat} {A : Option Addr} {ls : List (Option Addr × Nat × Nat)} (h : Rd w B A (ls.map sl3)) {i : Nat} {p : Option Addr × Nat × Nat} (hi : ls[i]? = some p) : ∃ b o, A = some ⟨b, o, none⟩ ∧ b < B ∧ w.cell? ⟨b, o + i, none⟩ = some (.slice p.1 p.2.1 p.2.2) := by
  have hlt : i < ls.length := (List.getElem?_eq_some_iff.1 hi).1
  obtain ⟨b, o, hA, hb, hc⟩ := h.at (k := i) (by simpa using hlt)
  exact ⟨b, o, hA, hb, hc _ _ (by rw [List.getElem?_map, hi]; rfl)⟩
set_option maxRecDepth 100000 in
theorem great_any (B : Nat) (A : Option Addr) (c : Nat) (ls : List (Option Addr × Nat × Nat)) (g : Bool) (hg : g = ls.any fun p => decide (40 < p.2.1)) (w : World) (hr : Rd w B A (ls.map sl3)) (hl : ls.length ≤ 1000) :
    Calls Try.prog 8 #[.slice A ls.length c] w fun e w' => e = .returned (.bool g) ∧ w = w' := by
  have HG := Lib.hid hg
  clear hg
  go_enter Try.func8, Try.ntmps8
  go_wp2
  go_loopw [3] (fun v5 wr => ∃ k : Nat, k ≤ ls.length ∧ v5 = .int .i64 k ∧ (∀ p ∈ ls.take k, ¬ 40 < p.2.1) ∧ w = wr) (fun v5 _ => ls.length - (intOf v5).toNat)
  case atStart => exact ⟨0, by omega, rfl, by simp, rfl⟩
  case round =>
    obtain ⟨k, hk, rfl, hno, rfl⟩ := hrel
    have HNO := Lib.hid hno
    clear hno
    by_cases hlt : k < ls.length
    case neg =>
      have hkk : k = ls.length := by omega
      have hge : (ls.length : Int) ≤ (k : Int) := by omega
      have he : g = false := by
        have h := HNO.out
        rw [hkk, List.take_length] at h
        rw [HG.out, List.any_eq_false]
        intro p hp
        simpa using h p hp
      have HE := Lib.hid he
      clear he hkk
      go_wp2_with fail
      go_ret
      exact ⟨by rw [HE.out]; rfl, rfl⟩
    obtain ⟨p, hp⟩ : ∃ v, ls[k]? = some v := ⟨_, List.getElem?_eq_getElem hlt⟩
    obtain ⟨gb, go, rfl, hgb, q0⟩ := rd_sl hr hp
    have hkI : (k : Int) < (ls.length : Int) := by omega
    have HP := Lib.hid hp
    clear hp
    by_cases h1 : 40 < p.2.1
    · have hb : decide ((40 : Int) < (p.2.1 : Int)) = true := decide_eq_true (by omega)
      have he : g = true := by rw [HG.out, List.any_eq_true]; exact ⟨p, List.mem_of_getElem? HP.out, decide_eq_true h1⟩
      have HE := Lib.hid he
      clear he
      go_wp2_with fail
      go_ret
      exact ⟨by rw [HE.out]; rfl, rfl⟩
    · have hb : decide ((40 : Int) < (p.2.1 : Int)) = false := decide_eq_false (by omega)
      have HN := Lib.hid h1
      go_wp2_with fail
      go_roundw
      case rel =>
        refine ⟨k + 1, by omega, by go_num, fun q hq => ?_, by trivial⟩
        rw [List.take_add_one, HP.out] at hq
        rcases List.mem_append.1 hq with h | h
        · exact HNO.out q h
        · simp at h; rw [h]; exact HN.out
      case measure => simp [intOf]; omega
theorem form_at : ∀ {l : List S2} {k : Nat} {s : S2}, formL l → l[k]? = some s → s.1 < s.2
  | l, k, s, h, hs => form_mem h s (List.mem_of_getElem? hs)
theorem form_next : ∀ {l : List S2} {k : Nat} {s u : S2}, formL l → l[k]? = some s → l[k + 1]? = some u → s.2 < u.1
  | x :: l, 0, s, u, h, hs, hu => by
    simp at hs hu
    subst hs
    exact h.2.1 u (List.mem_of_getElem? hu)
  | x :: l, k + 1, s, u, h, hs, hu => form_next (l := l) (k := k) h.2.2 (by simpa using hs) (by simpa using hu)
set_option maxHeartbeats 1000000 in
set_option maxRecDepth 100000 in
theorem form_any (B : Nat) (A : Option Addr) (c : Nat) (l : List S2) (w : World) (hf : formL l) (hr : Rd w B A (scells l)) (hB : B ≤ w.heap.size) (hl : l.length ≤ 1000000000) :
    Calls Try.prog 16 #[.slice A l.length c] w fun e w' => e = .returned (.bool true) ∧ Below w.heap.size w w' := by
  have HF := Lib.hid hf
  clear hf
  go_enter Try.func16, Try.ntmps16
  go_wp2
  go_loopw [3] (fun v3 wr => ∃ k : Nat, k ≤ l.length ∧ v3 = .int .i64 k ∧ Below w.heap.size w wr) (fun v3 _ => l.length - (intOf v3).toNat)
  case atStart => exact ⟨0, by omega, rfl, Below.refl _ _⟩
  case round =>
    obtain ⟨k, hk, rfl, hbel⟩ := hrel
    by_cases hlt : k < l.length
    case neg =>
      have hge : (l.length : Int) ≤ (k : Int) := by omega
      go_wp2_with fail
      go_ret
      exact ⟨rfl, hbel⟩
    obtain ⟨s, hs⟩ : ∃ v, l[k]? = some v := ⟨_, List.getElem?_eq_getElem hlt⟩
    obtain ⟨gb, go, rfl, hgb, q0, q1⟩ := rd_span hr hs
    have F1 : ∀ w', Below w.heap.size w w' → w'.cell? ⟨gb, go + k * 2, none⟩ = some (.int .i64 s.1) ∧ w'.cell? ⟨gb, go + k * 2 + 1, none⟩ = some (.int .i64 s.2) := fun w' hb => ⟨(hb.cell (p := ⟨gb, go + k * 2, none⟩) (by show gb < _; omega)).trans q0, (hb.cell (p := ⟨gb, go + k * 2 + 1, none⟩) (by show gb < _; omega)).trans q1⟩
    have hkI : (k : Int) < (l.length : Int) := by omega
    have hnl := form_at HF.out hs
    have hd : decide (s.2 ≤ s.1) = false := decide_eq_false (by omega)
    rcases Nat.eq_zero_or_pos k with hk0 | hk0
    · subst hk0
      clear q0 q1 hs
      go_wp2_with fail
      refine ah_start 29 (fun w' => Below w.heap.size w w') rfl (by kernel_rfl) hbel.drew ?_ ; intro hS
      (refine mv_val 0 (v := ?_) rfl (by kernel_rfl) (by kernel_rfl) (by kernel_rfl) (fun _ _ _ h => h) (by rfl) hS ?_ ?_; rotate_left; (focus (intro w hSw; (try dsimp only at hSw); (have f1 := (F1 w hSw).1; have f2 := (F1 w hSw).2; have f3 := hlt; have f5 := hd; simp only [Nat.zero_mul, Nat.add_zero, Nat.zero_add] at f1 f2); go_simp; first | done | with_reducible rfl)); simp only [Act.put, List.setIfInBounds_toArray, List.set_cons_zero, List.set_cons_succ])
      (refine mv_val 1 (v := ?_) rfl (by kernel_rfl) (by kernel_rfl) (by kernel_rfl) (fun _ _ _ h => h) (by rfl) hS ?_ ?_; rotate_left; (focus (intro w hSw; (try dsimp only at hSw); (have f1 := (F1 w hSw).1; have f2 := (F1 w hSw).2; have f3 := hlt; have f5 := hd; simp only [Nat.zero_mul, Nat.add_zero, Nat.zero_add] at f1 f2); go_simp; first | done | with_reducible rfl)); simp only [Act.put, List.setIfInBounds_toArray, List.set_cons_zero, List.set_cons_succ])
      (refine mv_val 2 (v := ?_) rfl (by kernel_rfl) (by kernel_rfl) (by kernel_rfl) (fun _ _ _ h => h) (by rfl) hS ?_ ?_; rotate_left; (focus (intro w hSw; (try dsimp only at hSw); (have f1 := (F1 w hSw).1; have f2 := (F1 w hSw).2; have f3 := hlt; have f5 := hd; simp only [Nat.zero_mul, Nat.add_zero, Nat.zero_add] at f1 f2); go_simp; first | done | with_reducible rfl)); simp only [Act.put, List.setIfInBounds_toArray, List.set_cons_zero, List.set_cons_succ])
      (refine mv_val 3 (v := ?_) rfl (by kernel_rfl) (by kernel_rfl) (by kernel_rfl) (fun _ _ _ h => h) (by rfl) hS ?_ ?_; rotate_left; (focus (intro w hSw; (try dsimp only at hSw); (have f1 := (F1 w hSw).1; have f2 := (F1 w hSw).2; have f3 := hlt; have f5 := hd; simp only [Nat.zero_mul, Nat.add_zero, Nat.zero_add] at f1 f2); go_simp; first | done | with_reducible rfl)); simp only [Act.put, List.setIfInBounds_toArray, List.set_cons_zero, List.set_cons_succ])
      (refine mv_val 4 (v := ?_) rfl (by kernel_rfl) (by kernel_rfl) (by kernel_rfl) (fun _ _ _ h => h) (by rfl) hS ?_ ?_; rotate_left; (focus (intro w hSw; (try dsimp only at hSw); (have f1 := (F1 w hSw).1; have f2 := (F1 w hSw).2; have f3 := hlt; have f5 := hd; simp only [Nat.zero_mul, Nat.add_zero, Nat.zero_add] at f1 f2); go_simp; first | done | with_reducible rfl)); simp only [Act.put, List.setIfInBounds_toArray, List.set_cons_zero, List.set_cons_succ])
      (refine mv_val 5 (v := ?_) rfl (by kernel_rfl) (by kernel_rfl) (by kernel_rfl) (fun _ _ _ h => h) (by rfl) hS ?_ ?_; rotate_left; (focus (intro w hSw; (try dsimp only at hSw); (have f1 := (F1 w hSw).1; have f2 := (F1 w hSw).2; have f3 := hlt; have f5 := hd; simp only [Nat.zero_mul, Nat.add_zero, Nat.zero_add] at f1 f2); go_simp; first | done | with_reducible rfl)); simp only [Act.put, List.setIfInBounds_toArray, List.set_cons_zero, List.set_cons_succ])
      (refine mv_val 6 (v := ?_) rfl (by kernel_rfl) (by kernel_rfl) (by kernel_rfl) (fun _ _ _ h => h) (by rfl) hS ?_ ?_; rotate_left; (focus (intro w hSw; (try dsimp only at hSw); (have f1 := (F1 w hSw).1; have f2 := (F1 w hSw).2; have f3 := hlt; have f5 := hd; simp only [Nat.zero_mul, Nat.add_zero, Nat.zero_add] at f1 f2); go_simp; first | done | with_reducible rfl)); simp only [Act.put, List.setIfInBounds_toArray, List.set_cons_zero, List.set_cons_succ])
      (refine mv_val 7 (v := ?_) rfl (by kernel_rfl) (by kernel_rfl) (by kernel_rfl) (fun _ _ _ h => h) (by rfl) hS ?_ ?_; rotate_left; (focus (intro w hSw; (try dsimp only at hSw); (have f1 := (F1 w hSw).1; have f2 := (F1 w hSw).2; have f3 := hlt; have f5 := hd; simp only [Nat.zero_mul, Nat.add_zero, Nat.zero_add] at f1 f2); go_simp; first | done | with_reducible rfl)); simp only [Act.put, List.setIfInBounds_toArray, List.set_cons_zero, List.set_cons_succ])
      (refine mv_val 8 (v := ?_) rfl (by kernel_rfl) (by kernel_rfl) (by kernel_rfl) (fun _ _ _ h => h) (by rfl) hS ?_ ?_; rotate_left; (focus (intro w hSw; (try dsimp only at hSw); (have f1 := (F1 w hSw).1; have f2 := (F1 w hSw).2; have f3 := hlt; have f5 := hd; simp only [Nat.zero_mul, Nat.add_zero, Nat.zero_add] at f1 f2); go_simp; first | done | with_reducible rfl)); simp only [Act.put, List.setIfInBounds_toArray, List.set_cons_zero, List.set_cons_succ])
      (refine mv_val 9 (v := ?_) rfl (by kernel_rfl) (by kernel_rfl) (by kernel_rfl) (fun _ _ _ h => h) (by rfl) hS ?_ ?_; rotate_left; (focus (intro w hSw; (try dsimp only at hSw); (have f1 := (F1 w hSw).1; have f2 := (F1 w hSw).2; have f3 := hlt; have f5 := hd; simp only [Nat.zero_mul, Nat.add_zero, Nat.zero_add] at f1 f2); go_simp; first | done | with_reducible rfl)); simp only [Act.put, List.setIfInBounds_toArray, List.set_cons_zero, List.set_cons_succ])
      (refine mv_val 10 (v := ?_) rfl (by kernel_rfl) (by kernel_rfl) (by kernel_rfl) (fun _ _ _ h => h) (by rfl) hS ?_ ?_; rotate_left; (focus (intro w hSw; (try dsimp only at hSw); (have f1 := (F1 w hSw).1; have f2 := (F1 w hSw).2; have f3 := hlt; have f5 := hd; simp only [Nat.zero_mul, Nat.add_zero, Nat.zero_add] at f1 f2); go_simp; first | done | with_reducible rfl)); simp only [Act.put, List.setIfInBounds_toArray, List.set_cons_zero, List.set_cons_succ])
      (refine mv_val 11 (v := ?_) rfl (by kernel_rfl) (by kernel_rfl) (by kernel_rfl) (fun _ _ _ h => h) (by rfl) hS ?_ ?_; rotate_left; (focus (intro w hSw; (try dsimp only at hSw); (have f1 := (F1 w hSw).1; have f2 := (F1 w hSw).2; have f3 := hlt; have f5 := hd; simp only [Nat.zero_mul, Nat.add_zero, Nat.zero_add] at f1 f2); go_simp; first | done | with_reducible rfl)); simp only [Act.put, List.setIfInBounds_toArray, List.set_cons_zero, List.set_cons_succ])
      (refine mv_val 12 (v := ?_) rfl (by kernel_rfl) (by kernel_rfl) (by kernel_rfl) (fun _ _ _ h => h) (by rfl) hS ?_ ?_; rotate_left; (focus (intro w hSw; (try dsimp only at hSw); (have f1 := (F1 w hSw).1; have f2 := (F1 w hSw).2; have f3 := hlt; have f5 := hd; simp only [Nat.zero_mul, Nat.add_zero, Nat.zero_add] at f1 f2); go_simp; first | done | with_reducible rfl)); simp only [Act.put, List.setIfInBounds_toArray, List.set_cons_zero, List.set_cons_succ])
      (refine mv_val 13 (v := ?_) rfl (by kernel_rfl) (by kernel_rfl) (by kernel_rfl) (fun _ _ _ h => h) (by rfl) hS ?_ ?_; rotate_left; (focus (intro w hSw; (try dsimp only at hSw); (have f1 := (F1 w hSw).1; have f2 := (F1 w hSw).2; have f3 := hlt; have f5 := hd; simp only [Nat.zero_mul, Nat.add_zero, Nat.zero_add] at f1 f2); go_simp; first | done | with_reducible rfl)); simp only [Act.put, List.setIfInBounds_toArray, List.set_cons_zero, List.set_cons_succ])
      (refine mv_val 14 (v := ?_) rfl (by kernel_rfl) (by kernel_rfl) (by kernel_rfl) (fun _ _ _ h => h) (by rfl) hS ?_ ?_; rotate_left; (focus (intro w hSw; (try dsimp only at hSw); (have f1 := (F1 w hSw).1; have f2 := (F1 w hSw).2; have f3 := hlt; have f5 := hd; simp only [Nat.zero_mul, Nat.add_zero, Nat.zero_add] at f1 f2); go_simp; first | done | with_reducible rfl)); simp only [Act.put, List.setIfInBounds_toArray, List.set_cons_zero, List.set_cons_succ])
      (refine mv_skip 15 rfl (by kernel_rfl) (by kernel_rfl) (by kernel_rfl) (fun _ _ _ h => h) (by rfl) hS ?_; simp only [Act.put, List.setIfInBounds_toArray, List.set_cons_zero, List.set_cons_succ])
      (refine mv_skip 16 rfl (by kernel_rfl) (by kernel_rfl) (by kernel_rfl) (fun _ _ _ h => h) (by rfl) hS ?_; simp only [Act.put, List.setIfInBounds_toArray, List.set_cons_zero, List.set_cons_succ])
      (refine mv_skip 17 rfl (by kernel_rfl) (by kernel_rfl) (by kernel_rfl) (fun _ _ _ h => h) (by rfl) hS ?_; simp only [Act.put, List.setIfInBounds_toArray, List.set_cons_zero, List.set_cons_succ])
      (refine mv_skip 18 rfl (by kernel_rfl) (by kernel_rfl) (by kernel_rfl) (fun _ _ _ h => h) (by rfl) hS ?_; simp only [Act.put, List.setIfInBounds_toArray, List.set_cons_zero, List.set_cons_succ])
      (refine mv_skip 19 rfl (by kernel_rfl) (by kernel_rfl) (by kernel_rfl) (fun _ _ _ h => h) (by rfl) hS ?_; simp only [Act.put, List.setIfInBounds_toArray, List.set_cons_zero, List.set_cons_succ])
      (refine mv_skip 20 rfl (by kernel_rfl) (by kernel_rfl) (by kernel_rfl) (fun _ _ _ h => h) (by rfl) hS ?_; simp only [Act.put, List.setIfInBounds_toArray, List.set_cons_zero, List.set_cons_succ])
      (refine mv_skip 21 rfl (by kernel_rfl) (by kernel_rfl) (by kernel_rfl) (fun _ _ _ h => h) (by rfl) hS ?_; simp only [Act.put, List.setIfInBounds_toArray, List.set_cons_zero, List.set_cons_succ])
      (refine mv_skip 22 rfl (by kernel_rfl) (by kernel_rfl) (by kernel_rfl) (fun _ _ _ h => h) (by rfl) hS ?_; simp only [Act.put, List.setIfInBounds_toArray, List.set_cons_zero, List.set_cons_succ])
      (refine mv_skip 23 rfl (by kernel_rfl) (by kernel_rfl) (by kernel_rfl) (fun _ _ _ h => h) (by rfl) hS ?_; simp only [Act.put, List.setIfInBounds_toArray, List.set_cons_zero, List.set_cons_succ])
      (refine mv_skip 24 rfl (by kernel_rfl) (by kernel_rfl) (by kernel_rfl) (fun _ _ _ h => h) (by rfl) hS ?_; simp only [Act.put, List.setIfInBounds_toArray, List.set_cons_zero, List.set_cons_succ])
      (refine mv_skip 25 rfl (by kernel_rfl) (by kernel_rfl) (by kernel_rfl) (fun _ _ _ h => h) (by rfl) hS ?_; simp only [Act.put, List.setIfInBounds_toArray, List.set_cons_zero, List.set_cons_succ])
      (refine mv_skip 26 rfl (by kernel_rfl) (by kernel_rfl) (by kernel_rfl) (fun _ _ _ h => h) (by rfl) hS ?_; simp only [Act.put, List.setIfInBounds_toArray, List.set_cons_zero, List.set_cons_succ])
      (refine mv_val 27 (v := ?_) rfl (by kernel_rfl) (by kernel_rfl) (by kernel_rfl) (fun _ _ _ h => h) (by rfl) hS ?_ ?_; rotate_left; (focus (intro w hSw; (try dsimp only at hSw); (have f1 := (F1 w hSw).1; have f2 := (F1 w hSw).2; have f3 := hlt; have f5 := hd; simp only [Nat.zero_mul, Nat.add_zero, Nat.zero_add] at f1 f2); go_simp; first | done | with_reducible rfl)); simp only [Act.put, List.setIfInBounds_toArray, List.set_cons_zero, List.set_cons_succ])
      (refine mv_val 28 (v := ?_) rfl (by kernel_rfl) (by kernel_rfl) (by kernel_rfl) (fun _ _ _ h => h) (by rfl) hS ?_ ?_; rotate_left; (focus (intro w hSw; (try dsimp only at hSw); (have f1 := (F1 w hSw).1; have f2 := (F1 w hSw).2; have f3 := hlt; have f5 := hd; simp only [Nat.zero_mul, Nat.add_zero, Nat.zero_add] at f1 f2); go_simp; first | done | with_reducible rfl)); simp only [Act.put, List.setIfInBounds_toArray, List.set_cons_zero, List.set_cons_succ])
      refine wpAnyH_done (by kernel_rfl) ?_ _
      go_wp2_with fail
      go_roundw
      case rel => exact ⟨1, by omega, by go_num, hS⟩
      case measure => simp [intOf]; omega
    · obtain ⟨j, rfl⟩ : ∃ j, k = j + 1 := ⟨k - 1, by omega⟩
      obtain ⟨u, hu⟩ : ∃ v, l[j]? = some v := ⟨_, List.getElem?_eq_getElem (by omega)⟩
      obtain ⟨gb', go', hA', hgb', p0, p1⟩ := rd_span hr hu
      simp only [Option.some.injEq, Addr.mk.injEq, and_true] at hA'
      obtain ⟨rfl, rfl⟩ := hA'
      have F2 : ∀ w', Below w.heap.size w w' → w'.cell? ⟨gb, go + j * 2 + 1, none⟩ = some (.int .i64 u.2) := fun w' hb => (hb.cell (p := ⟨gb, go + j * 2 + 1, none⟩) (by show gb < _; omega)).trans p1
      have hne := form_next HF.out hu hs
      have hd2 : decide (s.1 ≤ u.2) = false := decide_eq_false (by omega)
      have hwj : IntKind.i64.wrap (j : Int) = (j : Int) := by rw [IntKind.wrap_i64]; omega
      have hwj1 : IntKind.i64.wrap ((j : Int) + 1) = (j : Int) + 1 := by rw [IntKind.wrap_i64]; omega
      have hjI : (0 : Int) < (j : Int) + 1 := by omega
      have hj0 : (0 : Int) ≤ (j : Int) + 1 := by omega
      have hjn : ((j : Int) + 1).toNat = j + 1 := by omega
      have hjl : j < l.length := by omega
      have hjL : (j : Int) + 1 < (l.length : Int) := by omega
      have hJL : (j : Int) < (l.length : Int) := by omega
      clear q0 q1 hs p0 p1 hu
      go_wp2_with fail
      refine ah_start 29 (fun w' => Below w.heap.size w w') rfl (by kernel_rfl) hbel.drew ?_ ; intro hS
      (refine mv_val 0 (v := ?_) rfl (by kernel_rfl) (by kernel_rfl) (by kernel_rfl) (fun _ _ _ h => h) (by rfl) hS ?_ ?_; rotate_left; (focus (intro w hSw; (try dsimp only at hSw); (have f1 := (F1 w hSw).1; have f2 := (F1 w hSw).2; have f3 := hlt; have f5 := hd; have f6 := F2 w hSw; have f7 := hd2; have f8 := hwj; have f9 := hjI; have f10 := hj0; have f11 := hjn; have f12 := hjl; have f13 := hjL; have f14 := hJL; have f15 := hwj1); go_simp; first | done | with_reducible rfl)); simp only [Act.put, List.setIfInBounds_toArray, List.set_cons_zero, List.set_cons_succ])
      (refine mv_val 1 (v := ?_) rfl (by kernel_rfl) (by kernel_rfl) (by kernel_rfl) (fun _ _ _ h => h) (by rfl) hS ?_ ?_; rotate_left; (focus (intro w hSw; (try dsimp only at hSw); (have f1 := (F1 w hSw).1; have f2 := (F1 w hSw).2; have f3 := hlt; have f5 := hd; have f6 := F2 w hSw; have f7 := hd2; have f8 := hwj; have f9 := hjI; have f10 := hj0; have f11 := hjn; have f12 := hjl; have f13 := hjL; have f14 := hJL; have f15 := hwj1); go_simp; first | done | with_reducible rfl)); simp only [Act.put, List.setIfInBounds_toArray, List.set_cons_zero, List.set_cons_succ])
      (refine mv_val 2 (v := ?_) rfl (by kernel_rfl) (by kernel_rfl) (by kernel_rfl) (fun _ _ _ h => h) (by rfl) hS ?_ ?_; rotate_left; (focus (intro w hSw; (try dsimp only at hSw); (have f1 := (F1 w hSw).1; have f2 := (F1 w hSw).2; have f3 := hlt; have f5 := hd; have f6 := F2 w hSw; have f7 := hd2; have f8 := hwj; have f9 := hjI; have f10 := hj0; have f11 := hjn; have f12 := hjl; have f13 := hjL; have f14 := hJL; have f15 := hwj1); go_simp; first | done | with_reducible rfl)); simp only [Act.put, List.setIfInBounds_toArray, List.set_cons_zero, List.set_cons_succ])
      (refine mv_val 3 (v := ?_) rfl (by kernel_rfl) (by kernel_rfl) (by kernel_rfl) (fun _ _ _ h => h) (by rfl) hS ?_ ?_; rotate_left; (focus (intro w hSw; (try dsimp only at hSw); (have f1 := (F1 w hSw).1; have f2 := (F1 w hSw).2; have f3 := hlt; have f5 := hd; have f6 := F2 w hSw; have f7 := hd2; have f8 := hwj; have f9 := hjI; have f10 := hj0; have f11 := hjn; have f12 := hjl; have f13 := hjL; have f14 := hJL; have f15 := hwj1); go_simp; first | done | with_reducible rfl)); simp only [Act.put, List.setIfInBounds_toArray, List.set_cons_zero, List.set_cons_succ])
      (refine mv_val 4 (v := ?_) rfl (by kernel_rfl) (by kernel_rfl) (by kernel_rfl) (fun _ _ _ h => h) (by rfl) hS ?_ ?_; rotate_left; (focus (intro w hSw; (try dsimp only at hSw); (have f1 := (F1 w hSw).1; have f2 := (F1 w hSw).2; have f3 := hlt; have f5 := hd; have f6 := F2 w hSw; have f7 := hd2; have f8 := hwj; have f9 := hjI; have f10 := hj0; have f11 := hjn; have f12 := hjl; have f13 := hjL; have f14 := hJL; have f15 := hwj1); go_simp; first | done | with_reducible rfl)); simp only [Act.put, List.setIfInBounds_toArray, List.set_cons_zero, List.set_cons_succ])
      (refine mv_val 5 (v := ?_) rfl (by kernel_rfl) (by kernel_rfl) (by kernel_rfl) (fun _ _ _ h => h) (by rfl) hS ?_ ?_; rotate_left; (focus (intro w hSw; (try dsimp only at hSw); (have f1 := (F1 w hSw).1; have f2 := (F1 w hSw).2; have f3 := hlt; have f5 := hd; have f6 := F2 w hSw; have f7 := hd2; have f8 := hwj; have f9 := hjI; have f10 := hj0; have f11 := hjn; have f12 := hjl; have f13 := hjL; have f14 := hJL; have f15 := hwj1); go_simp; first | done | with_reducible rfl)); simp only [Act.put, List.setIfInBounds_toArray, List.set_cons_zero, List.set_cons_succ])
      (refine mv_val 6 (v := ?_) rfl (by kernel_rfl) (by kernel_rfl) (by kernel_rfl) (fun _ _ _ h => h) (by rfl) hS ?_ ?_; rotate_left; (focus (intro w hSw; (try dsimp only at hSw); (have f1 := (F1 w hSw).1; have f2 := (F1 w hSw).2; have f3 := hlt; have f5 := hd; have f6 := F2 w hSw; have f7 := hd2; have f8 := hwj; have f9 := hjI; have f10 := hj0; have f11 := hjn; have f12 := hjl; have f13 := hjL; have f14 := hJL; have f15 := hwj1); go_simp; first | done | with_reducible rfl)); simp only [Act.put, List.setIfInBounds_toArray, List.set_cons_zero, List.set_cons_succ])
      (refine mv_val 7 (v := ?_) rfl (by kernel_rfl) (by kernel_rfl) (by kernel_rfl) (fun _ _ _ h => h) (by rfl) hS ?_ ?_; rotate_left; (focus (intro w hSw; (try dsimp only at hSw); (have f1 := (F1 w hSw).1; have f2 := (F1 w hSw).2; have f3 := hlt; have f5 := hd; have f6 := F2 w hSw; have f7 := hd2; have f8 := hwj; have f9 := hjI; have f10 := hj0; have f11 := hjn; have f12 := hjl; have f13 := hjL; have f14 := hJL; have f15 := hwj1); go_simp; first | done | with_reducible rfl)); simp only [Act.put, List.setIfInBounds_toArray, List.set_cons_zero, List.set_cons_succ])
      (refine mv_val 8 (v := ?_) rfl (by kernel_rfl) (by kernel_rfl) (by kernel_rfl) (fun _ _ _ h => h) (by rfl) hS ?_ ?_; rotate_left; (focus (intro w hSw; (try dsimp only at hSw); (have f1 := (F1 w hSw).1; have f2 := (F1 w hSw).2; have f3 := hlt; have f5 := hd; have f6 := F2 w hSw; have f7 := hd2; have f8 := hwj; have f9 := hjI; have f10 := hj0; have f11 := hjn; have f12 := hjl; have f13 := hjL; have f14 := hJL; have f15 := hwj1); go_simp; first | done | with_reducible rfl)); simp only [Act.put, List.setIfInBounds_toArray, List.set_cons_zero, List.set_cons_succ])
      (refine mv_val 9 (v := ?_) rfl (by kernel_rfl) (by kernel_rfl) (by kernel_rfl) (fun _ _ _ h => h) (by rfl) hS ?_ ?_; rotate_left; (focus (intro w hSw; (try dsimp only at hSw); (have f1 := (F1 w hSw).1; have f2 := (F1 w hSw).2; have f3 := hlt; have f5 := hd; have f6 := F2 w hSw; have f7 := hd2; have f8 := hwj; have f9 := hjI; have f10 := hj0; have f11 := hjn; have f12 := hjl; have f13 := hjL; have f14 := hJL; have f15 := hwj1); go_simp; first | done | with_reducible rfl)); simp only [Act.put, List.setIfInBounds_toArray, List.set_cons_zero, List.set_cons_succ])
      (refine mv_val 10 (v := ?_) rfl (by kernel_rfl) (by kernel_rfl) (by kernel_rfl) (fun _ _ _ h => h) (by rfl) hS ?_ ?_; rotate_left; (focus (intro w hSw; (try dsimp only at hSw); (have f1 := (F1 w hSw).1; have f2 := (F1 w hSw).2; have f3 := hlt; have f5 := hd; have f6 := F2 w hSw; have f7 := hd2; have f8 := hwj; have f9 := hjI; have f10 := hj0; have f11 := hjn; have f12 := hjl; have f13 := hjL; have f14 := hJL; have f15 := hwj1); go_simp; first | done | with_reducible rfl)); simp only [Act.put, List.setIfInBounds_toArray, List.set_cons_zero, List.set_cons_succ])
      (refine mv_val 11 (v := ?_) rfl (by kernel_rfl) (by kernel_rfl) (by kernel_rfl) (fun _ _ _ h => h) (by rfl) hS ?_ ?_; rotate_left; (focus (intro w hSw; (try dsimp only at hSw); (have f1 := (F1 w hSw).1; have f2 := (F1 w hSw).2; have f3 := hlt; have f5 := hd; have f6 := F2 w hSw; have f7 := hd2; have f8 := hwj; have f9 := hjI; have f10 := hj0; have f11 := hjn; have f12 := hjl; have f13 := hjL; have f14 := hJL; have f15 := hwj1); go_simp; first | done | with_reducible rfl)); simp only [Act.put, List.setIfInBounds_toArray, List.set_cons_zero, List.set_cons_succ])
      (refine mv_val 12 (v := ?_) rfl (by kernel_rfl) (by kernel_rfl) (by kernel_rfl) (fun _ _ _ h => h) (by rfl) hS ?_ ?_; rotate_left; (focus (intro w hSw; (try dsimp only at hSw); (have f1 := (F1 w hSw).1; have f2 := (F1 w hSw).2; have f3 := hlt; have f5 := hd; have f6 := F2 w hSw; have f7 := hd2; have f8 := hwj; have f9 := hjI; have f10 := hj0; have f11 := hjn; have f12 := hjl; have f13 := hjL; have f14 := hJL; have f15 := hwj1); go_simp; first | done | with_reducible rfl)); simp only [Act.put, List.setIfInBounds_toArray, List.set_cons_zero, List.set_cons_succ])
      (refine mv_val 13 (v := ?_) rfl (by kernel_rfl) (by kernel_rfl) (by kernel_rfl) (fun _ _ _ h => h) (by rfl) hS ?_ ?_; rotate_left; (focus (intro w hSw; (try dsimp only at hSw); (have f1 := (F1 w hSw).1; have f2 := (F1 w hSw).2; have f3 := hlt; have f5 := hd; have f6 := F2 w hSw; have f7 := hd2; have f8 := hwj; have f9 := hjI; have f10 := hj0; have f11 := hjn; have f12 := hjl; have f13 := hjL; have f14 := hJL; have f15 := hwj1); go_simp; first | done | with_reducible rfl)); simp only [Act.put, List.setIfInBounds_toArray, List.set_cons_zero, List.set_cons_succ])
      (refine mv_val 14 (v := ?_) rfl (by kernel_rfl) (by kernel_rfl) (by kernel_rfl) (fun _ _ _ h => h) (by rfl) hS ?_ ?_; rotate_left; (focus (intro w hSw; (try dsimp only at hSw); (have f1 := (F1 w hSw).1; have f2 := (F1 w hSw).2; have f3 := hlt; have f5 := hd; have f6 := F2 w hSw; have f7 := hd2; have f8 := hwj; have f9 := hjI; have f10 := hj0; have f11 := hjn; have f12 := hjl; have f13 := hjL; have f14 := hJL; have f15 := hwj1); go_simp; first | done | with_reducible rfl)); simp only [Act.put, List.setIfInBounds_toArray, List.set_cons_zero, List.set_cons_succ])
      (refine mv_val 15 (v := ?_) rfl (by kernel_rfl) (by kernel_rfl) (by kernel_rfl) (fun _ _ _ h => h) (by rfl) hS ?_ ?_; rotate_left; (focus (intro w hSw; (try dsimp only at hSw); (have f1 := (F1 w hSw).1; have f2 := (F1 w hSw).2; have f3 := hlt; have f5 := hd; have f6 := F2 w hSw; have f7 := hd2; have f8 := hwj; have f9 := hjI; have f10 := hj0; have f11 := hjn; have f12 := hjl; have f13 := hjL; have f14 := hJL; have f15 := hwj1); go_simp; first | done | with_reducible rfl)); simp only [Act.put, List.setIfInBounds_toArray, List.set_cons_zero, List.set_cons_succ])
      (refine mv_val 16 (v := ?_) rfl (by kernel_rfl) (by kernel_rfl) (by kernel_rfl) (fun _ _ _ h => h) (by rfl) hS ?_ ?_; rotate_left; (focus (intro w hSw; (try dsimp only at hSw); (have f1 := (F1 w hSw).1; have f2 := (F1 w hSw).2; have f3 := hlt; have f5 := hd; have f6 := F2 w hSw; have f7 := hd2; have f8 := hwj; have f9 := hjI; have f10 := hj0; have f11 := hjn; have f12 := hjl; have f13 := hjL; have f14 := hJL; have f15 := hwj1); go_simp; first | done | with_reducible rfl)); simp only [Act.put, List.setIfInBounds_toArray, List.set_cons_zero, List.set_cons_succ])
      (refine mv_val 17 (v := ?_) rfl (by kernel_rfl) (by kernel_rfl) (by kernel_rfl) (fun _ _ _ h => h) (by rfl) hS ?_ ?_; rotate_left; (focus (intro w hSw; (try dsimp only at hSw); (have f1 := (F1 w hSw).1; have f2 := (F1 w hSw).2; have f3 := hlt; have f5 := hd; have f6 := F2 w hSw; have f7 := hd2; have f8 := hwj; have f9 := hjI; have f10 := hj0; have f11 := hjn; have f12 := hjl; have f13 := hjL; have f14 := hJL; have f15 := hwj1); go_simp; first | done | with_reducible rfl)); simp only [Act.put, List.setIfInBounds_toArray, List.set_cons_zero, List.set_cons_succ])
      (refine mv_val 18 (v := ?_) rfl (by kernel_rfl) (by kernel_rfl) (by kernel_rfl) (fun _ _ _ h => h) (by rfl) hS ?_ ?_; rotate_left; (focus (intro w hSw; (try dsimp only at hSw); (have f1 := (F1 w hSw).1; have f2 := (F1 w hSw).2; have f3 := hlt; have f5 := hd; have f6 := F2 w hSw; have f7 := hd2; have f8 := hwj; have f9 := hjI; have f10 := hj0; have f11 := hjn; have f12 := hjl; have f13 := hjL; have f14 := hJL; have f15 := hwj1); go_simp; first | done | with_reducible rfl)); simp only [Act.put, List.setIfInBounds_toArray, List.set_cons_zero, List.set_cons_succ])
      (refine mv_val 19 (v := ?_) rfl (by kernel_rfl) (by kernel_rfl) (by kernel_rfl) (fun _ _ _ h => h) (by rfl) hS ?_ ?_; rotate_left; (focus (intro w hSw; (try dsimp only at hSw); (have f1 := (F1 w hSw).1; have f2 := (F1 w hSw).2; have f3 := hlt; have f5 := hd; have f6 := F2 w hSw; have f7 := hd2; have f8 := hwj; have f9 := hjI; have f10 := hj0; have f11 := hjn; have f12 := hjl; have f13 := hjL; have f14 := hJL; have f15 := hwj1); go_simp; first | done | with_reducible rfl)); simp only [Act.put, List.setIfInBounds_toArray, List.set_cons_zero, List.set_cons_succ])
      (refine mv_val 20 (v := ?_) rfl (by kernel_rfl) (by kernel_rfl) (by kernel_rfl) (fun _ _ _ h => h) (by rfl) hS ?_ ?_; rotate_left; (focus (intro w hSw; (try dsimp only at hSw); (have f1 := (F1 w hSw).1; have f2 := (F1 w hSw).2; have f3 := hlt; have f5 := hd; have f6 := F2 w hSw; have f7 := hd2; have f8 := hwj; have f9 := hjI; have f10 := hj0; have f11 := hjn; have f12 := hjl; have f13 := hjL; have f14 := hJL; have f15 := hwj1); go_simp; first | done | with_reducible rfl)); simp only [Act.put, List.setIfInBounds_toArray, List.set_cons_zero, List.set_cons_succ])
      (refine mv_val 21 (v := ?_) rfl (by kernel_rfl) (by kernel_rfl) (by kernel_rfl) (fun _ _ _ h => h) (by rfl) hS ?_ ?_; rotate_left; (focus (intro w hSw; (try dsimp only at hSw); (have f1 := (F1 w hSw).1; have f2 := (F1 w hSw).2; have f3 := hlt; have f5 := hd; have f6 := F2 w hSw; have f7 := hd2; have f8 := hwj; have f9 := hjI; have f10 := hj0; have f11 := hjn; have f12 := hjl; have f13 := hjL; have f14 := hJL; have f15 := hwj1); go_simp; first | done | with_reducible rfl)); simp only [Act.put, List.setIfInBounds_toArray, List.set_cons_zero, List.set_cons_succ])
      (refine mv_val 22 (v := ?_) rfl (by kernel_rfl) (by kernel_rfl) (by kernel_rfl) (fun _ _ _ h => h) (by rfl) hS ?_ ?_; rotate_left; (focus (intro w hSw; (try dsimp only at hSw); (have f1 := (F1 w hSw).1; have f2 := (F1 w hSw).2; have f3 := hlt; have f5 := hd; have f6 := F2 w hSw; have f7 := hd2; have f8 := hwj; have f9 := hjI; have f10 := hj0; have f11 := hjn; have f12 := hjl; have f13 := hjL; have f14 := hJL; have f15 := hwj1); go_simp; first | done | with_reducible rfl)); simp only [Act.put, List.setIfInBounds_toArray, List.set_cons_zero, List.set_cons_succ])
      (refine mv_val 23 (v := ?_) rfl (by kernel_rfl) (by kernel_rfl) (by kernel_rfl) (fun _ _ _ h => h) (by rfl) hS ?_ ?_; rotate_left; (focus (intro w hSw; (try dsimp only at hSw); (have f1 := (F1 w hSw).1; have f2 := (F1 w hSw).2; have f3 := hlt; have f5 := hd; have f6 := F2 w hSw; have f7 := hd2; have f8 := hwj; have f9 := hjI; have f10 := hj0; have f11 := hjn; have f12 := hjl; have f13 := hjL; have f14 := hJL; have f15 := hwj1); go_simp; first | done | with_reducible rfl)); simp only [Act.put, List.setIfInBounds_toArray, List.set_cons_zero, List.set_cons_succ])
      (refine mv_val 24 (v := ?_) rfl (by kernel_rfl) (by kernel_rfl) (by kernel_rfl) (fun _ _ _ h => h) (by rfl) hS ?_ ?_; rotate_left; (focus (intro w hSw; (try dsimp only at hSw); (have f1 := (F1 w hSw).1; have f2 := (F1 w hSw).2; have f3 := hlt; have f5 := hd; have f6 := F2 w hSw; have f7 := hd2; have f8 := hwj; have f9 := hjI; have f10 := hj0; have f11 := hjn; have f12 := hjl; have f13 := hjL; have f14 := hJL; have f15 := hwj1); go_simp; first | done | with_reducible rfl)); simp only [Act.put, List.setIfInBounds_toArray, List.set_cons_zero, List.set_cons_succ])
      (refine mv_val 25 (v := ?_) rfl (by kernel_rfl) (by kernel_rfl) (by kernel_rfl) (fun _ _ _ h => h) (by rfl) hS ?_ ?_; rotate_left; (focus (intro w hSw; (try dsimp only at hSw); (have f1 := (F1 w hSw).1; have f2 := (F1 w hSw).2; have f3 := hlt; have f5 := hd; have f6 := F2 w hSw; have f7 := hd2; have f8 := hwj; have f9 := hjI; have f10 := hj0; have f11 := hjn; have f12 := hjl; have f13 := hjL; have f14 := hJL; have f15 := hwj1); go_simp; first | done | with_reducible rfl)); simp only [Act.put, List.setIfInBounds_toArray, List.set_cons_zero, List.set_cons_succ])
      (refine mv_val 26 (v := ?_) rfl (by kernel_rfl) (by kernel_rfl) (by kernel_rfl) (fun _ _ _ h => h) (by rfl) hS ?_ ?_; rotate_left; (focus (intro w hSw; (try dsimp only at hSw); (have f1 := (F1 w hSw).1; have f2 := (F1 w hSw).2; have f3 := hlt; have f5 := hd; have f6 := F2 w hSw; have f7 := hd2; have f8 := hwj; have f9 := hjI; have f10 := hj0; have f11 := hjn; have f12 := hjl; have f13 := hjL; have f14 := hJL; have f15 := hwj1); go_simp; first | done | with_reducible rfl)); simp only [Act.put, List.setIfInBounds_toArray, List.set_cons_zero, List.set_cons_succ])
      (refine mv_val 27 (v := ?_) rfl (by kernel_rfl) (by kernel_rfl) (by kernel_rfl) (fun _ _ _ h => h) (by rfl) hS ?_ ?_; rotate_left; (focus (intro w hSw; (try dsimp only at hSw); (have f1 := (F1 w hSw).1; have f2 := (F1 w hSw).2; have f3 := hlt; have f5 := hd; have f6 := F2 w hSw; have f7 := hd2; have f8 := hwj; have f9 := hjI; have f10 := hj0; have f11 := hjn; have f12 := hjl; have f13 := hjL; have f14 := hJL; have f15 := hwj1); go_simp; first | done | with_reducible rfl)); simp only [Act.put, List.setIfInBounds_toArray, List.set_cons_zero, List.set_cons_succ])
      (refine mv_val 28 (v := ?_) rfl (by kernel_rfl) (by kernel_rfl) (by kernel_rfl) (fun _ _ _ h => h) (by rfl) hS ?_ ?_; rotate_left; (focus (intro w hSw; (try dsimp only at hSw); (have f1 := (F1 w hSw).1; have f2 := (F1 w hSw).2; have f3 := hlt; have f5 := hd; have f6 := F2 w hSw; have f7 := hd2; have f8 := hwj; have f9 := hjI; have f10 := hj0; have f11 := hjn; have f12 := hjl; have f13 := hjL; have f14 := hJL; have f15 := hwj1); go_simp; first | done | with_reducible rfl)); simp only [Act.put, List.setIfInBounds_toArray, List.set_cons_zero, List.set_cons_succ])
      refine wpAnyH_done (by kernel_rfl) ?_ _
      go_wp2_with fail
      go_roundw
      case rel => exact ⟨j + 1 + 1, by omega, by go_num, hS⟩
      case measure => simp [intOf]; omega
theorem sp_any (x y : Int) (w : World) : Calls Try.prog 35 #[.int .i64 x, .int .i64 y] w fun e w' => e = .returned (sa (x, y)) ∧ Below w.heap.size w w' := by
  go_enter Try.func35, Try.ntmps35
  go_wp2
  refine bodyPost_ret (v := sa (x, y)) (by simp [results, Try.results35, go_sem]) rfl ⟨rfl, by go_grown⟩
end Go.Proofs.Ytiohdacbnigpkaa

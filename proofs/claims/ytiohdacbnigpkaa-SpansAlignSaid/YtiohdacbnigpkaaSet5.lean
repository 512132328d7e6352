/- The walks of slices.Equal over spans, ref10.Same, law10.equal, and of spans.Has, law10.own (layer 10). -/
import Derived.Test.YtiohdacbnigpkaaSet4
namespace Go.Proofs.Ytiohdacbnigpkaa
open Go.RowKit Go.Maps
set_option linter.unusedVariables false
set_option linter.unusedSimpArgs false

/-- how a region spells 'x != y' of two spans -/
theorem neq_span (x y : S2) (w : World) : (if x.1 = y.1 then if x.2 = y.2 then (Result.ok (Next.value (.bool false)) w : Result Next) else Result.ok (Next.value (.bool true)) w else Result.ok (Next.value (.bool true)) w)
    = Result.ok (Next.value (.bool (!decide (x = y)))) w := by
  obtain ⟨a, b⟩ := x
  obtain ⟨a', b'⟩ := y
  dsimp only
  by_cases h1 : a = a'
  · by_cases h2 : b = b'
    · subst h1 h2; simp
    · simp [h1, h2]
  · simp [h1]
theorem take_more {α : Type} {l m : List α} {k : Nat} {x y : α} (h : l.take k = m.take k) (hx : l[k]? = some x) (hy : m[k]? = some y) (hxy : x = y) : l.take (k + 1) = m.take (k + 1) := by
  rw [List.take_add_one, List.take_add_one, hx, hy, h, hxy]
set_option maxRecDepth 100000 in
theorem sEqual_any (B : Nat) (A A' : Option Addr) (c c' : Nat) (l m : List S2) (w : World) (hl : Rd w B A (scells l)) (hm : Rd w B A' (scells m)) (hB : B ≤ w.heap.size) (hll : l.length ≤ maxLen) :
    Calls Try.prog 54 #[.slice A l.length c, .slice A' m.length c'] w fun e w' => e = .returned (.bool (decide (l = m))) ∧ Below w.heap.size w w' := by
  by_cases hlm : l.length = m.length
  case neg =>
    have he : decide (l = m) = false := by
      simp only [decide_eq_false_iff_not]; rintro rfl; exact hlm rfl
    have HE := Lib.hid he
    have hI : ((l.length : Int) != (m.length : Int)) = true := by simp; omega
    clear he hlm
    go_enter Try.func54, Try.ntmps54
    go_wp2
    go_ret
    exact ⟨by rw [HE.out]; rfl, by go_grown⟩
  have HLM := Lib.hid hlm
  obtain ⟨n, hn⟩ : ∃ n, n = l.length := ⟨_, rfl⟩
  have hn2 : m.length = n := by omega
  rw [← hn, hn2]
  have HN := Lib.hid hn
  have HN2 := Lib.hid hn2
  rw [← hn] at hll
  clear hlm hn hn2
  unfold maxLen at hll
  go_enter Try.func54, Try.ntmps54
  go_wp2
  go_loopw [13] (fun vs wr => ∃ k : Nat, k ≤ n ∧ vs = .int .i64 k ∧ l.take k = m.take k ∧ Below w.heap.size w wr) (fun vs _ => n - (intOf vs).toNat)
  case atStart => exact ⟨0, by omega, rfl, rfl, Below.refl _ _⟩
  case round =>
    obtain ⟨k, hk, rfl, htk, hbel⟩ := hrel
    have HTK := Lib.hid htk
    clear htk
    by_cases hlt : k < n
    · have hn1 := HN.out
      have hn2 := HN2.out
      obtain ⟨x, hx⟩ : ∃ v, l[k]? = some v := ⟨_, List.getElem?_eq_getElem (by omega)⟩
      obtain ⟨y, hy⟩ : ∃ v, m[k]? = some v := ⟨_, List.getElem?_eq_getElem (by omega)⟩
      obtain ⟨gb, go, rfl, hgb, q0, q1⟩ := rd_span hl hx
      obtain ⟨hb, ho, rfl, hhb, p0, p1⟩ := rd_span hm hy
      have F1 : ∀ w', Below w.heap.size w w' → w'.cell? ⟨gb, go + k * 2, none⟩ = some (.int .i64 x.1) ∧ w'.cell? ⟨gb, go + k * 2 + 1, none⟩ = some (.int .i64 x.2) := fun w' hb => ⟨(hb.cell (p := ⟨gb, go + k * 2, none⟩) (by show gb < _; omega)).trans q0, (hb.cell (p := ⟨gb, go + k * 2 + 1, none⟩) (by show gb < _; omega)).trans q1⟩
      have F2 : ∀ w', Below w.heap.size w w' → w'.cell? ⟨hb, ho + k * 2, none⟩ = some (.int .i64 y.1) ∧ w'.cell? ⟨hb, ho + k * 2 + 1, none⟩ = some (.int .i64 y.2) := fun w' hbw => ⟨(hbw.cell (p := ⟨hb, ho + k * 2, none⟩) (by show hb < _; omega)).trans p0, (hbw.cell (p := ⟨hb, ho + k * 2 + 1, none⟩) (by show hb < _; omega)).trans p1⟩
      have hkI : (k : Int) < (n : Int) := by omega
      clear q0 q1 p0 p1 hn1 hn2
      have HX := Lib.hid hx
      have HY := Lib.hid hy
      clear hx hy
      go_wp2_with fail
      refine ah_start 9 (fun w' => Below w.heap.size w w') rfl (by kernel_rfl) hbel.drew ?_ ; intro hS
      (refine mv_val 0 (v := ?_) rfl (by kernel_rfl) (by kernel_rfl) (by kernel_rfl) (fun _ _ _ h => h) (by rfl) hS ?_ ?_; rotate_left; (focus (intro w hSw; (try dsimp only at hSw); (have f1 := (F1 w hSw).1; have f2 := (F1 w hSw).2; have f4 := (F2 w hSw).1; have f5 := (F2 w hSw).2; have f7 := hlt; have f8 := neq_span x y w); go_simp; first | done | with_reducible rfl)); simp only [Act.put, List.setIfInBounds_toArray, List.set_cons_zero, List.set_cons_succ])
      (refine mv_val 1 (v := ?_) rfl (by kernel_rfl) (by kernel_rfl) (by kernel_rfl) (fun _ _ _ h => h) (by rfl) hS ?_ ?_; rotate_left; (focus (intro w hSw; (try dsimp only at hSw); (have f1 := (F1 w hSw).1; have f2 := (F1 w hSw).2; have f4 := (F2 w hSw).1; have f5 := (F2 w hSw).2; have f7 := hlt; have f8 := neq_span x y w); go_simp; first | done | with_reducible rfl)); simp only [Act.put, List.setIfInBounds_toArray, List.set_cons_zero, List.set_cons_succ])
      (refine mv_val 2 (v := ?_) rfl (by kernel_rfl) (by kernel_rfl) (by kernel_rfl) (fun _ _ _ h => h) (by rfl) hS ?_ ?_; rotate_left; (focus (intro w hSw; (try dsimp only at hSw); (have f1 := (F1 w hSw).1; have f2 := (F1 w hSw).2; have f4 := (F2 w hSw).1; have f5 := (F2 w hSw).2; have f7 := hlt; have f8 := neq_span x y w); go_simp; first | done | with_reducible rfl)); simp only [Act.put, List.setIfInBounds_toArray, List.set_cons_zero, List.set_cons_succ])
      (refine mv_val 3 (v := ?_) rfl (by kernel_rfl) (by kernel_rfl) (by kernel_rfl) (fun _ _ _ h => h) (by rfl) hS ?_ ?_; rotate_left; (focus (intro w hSw; (try dsimp only at hSw); (have f1 := (F1 w hSw).1; have f2 := (F1 w hSw).2; have f4 := (F2 w hSw).1; have f5 := (F2 w hSw).2; have f7 := hlt; have f8 := neq_span x y w); go_simp; first | done | with_reducible rfl)); simp only [Act.put, List.setIfInBounds_toArray, List.set_cons_zero, List.set_cons_succ])
      (refine mv_val 4 (v := ?_) rfl (by kernel_rfl) (by kernel_rfl) (by kernel_rfl) (fun _ _ _ h => h) (by rfl) hS ?_ ?_; rotate_left; (focus (intro w hSw; (try dsimp only at hSw); (have f1 := (F1 w hSw).1; have f2 := (F1 w hSw).2; have f4 := (F2 w hSw).1; have f5 := (F2 w hSw).2; have f7 := hlt; have f8 := neq_span x y w); go_simp; first | done | with_reducible rfl)); simp only [Act.put, List.setIfInBounds_toArray, List.set_cons_zero, List.set_cons_succ])
      (refine mv_val 5 (v := ?_) rfl (by kernel_rfl) (by kernel_rfl) (by kernel_rfl) (fun _ _ _ h => h) (by rfl) hS ?_ ?_; rotate_left; (focus (intro w hSw; (try dsimp only at hSw); (have f1 := (F1 w hSw).1; have f2 := (F1 w hSw).2; have f4 := (F2 w hSw).1; have f5 := (F2 w hSw).2; have f7 := hlt; have f8 := neq_span x y w); go_simp; first | done | with_reducible rfl)); simp only [Act.put, List.setIfInBounds_toArray, List.set_cons_zero, List.set_cons_succ])
      (refine mv_val 6 (v := ?_) rfl (by kernel_rfl) (by kernel_rfl) (by kernel_rfl) (fun _ _ _ h => h) (by rfl) hS ?_ ?_; rotate_left; (focus (intro w hSw; (try dsimp only at hSw); (have f1 := (F1 w hSw).1; have f2 := (F1 w hSw).2; have f4 := (F2 w hSw).1; have f5 := (F2 w hSw).2; have f7 := hlt; have f8 := neq_span x y w); go_simp; first | done | with_reducible rfl)); simp only [Act.put, List.setIfInBounds_toArray, List.set_cons_zero, List.set_cons_succ])
      (refine mv_val 7 (v := ?_) rfl (by kernel_rfl) (by kernel_rfl) (by kernel_rfl) (fun _ _ _ h => h) (by rfl) hS ?_ ?_; rotate_left; (focus (intro w hSw; (try dsimp only at hSw); (have f1 := (F1 w hSw).1; have f2 := (F1 w hSw).2; have f4 := (F2 w hSw).1; have f5 := (F2 w hSw).2; have f7 := hlt; have f8 := neq_span x y w); go_simp; first | done | with_reducible rfl)); simp only [Act.put, List.setIfInBounds_toArray, List.set_cons_zero, List.set_cons_succ])
      (refine mv_val 8 (v := ?_) rfl (by kernel_rfl) (by kernel_rfl) (by kernel_rfl) (fun _ _ _ h => h) (by rfl) hS ?_ ?_; rotate_left; (focus (intro w hSw; (try dsimp only at hSw); (have f1 := (F1 w hSw).1; have f2 := (F1 w hSw).2; have f4 := (F2 w hSw).1; have f5 := (F2 w hSw).2; have f7 := hlt; have f8 := neq_span x y w); go_simp; first | done | with_reducible rfl)); simp only [Act.put, List.setIfInBounds_toArray, List.set_cons_zero, List.set_cons_succ])
      refine wpAnyH_done (by kernel_rfl) ?_ _
      by_cases hxy : x = y
      · have hq : (!decide (x = y)) = false := by simp [hxy]
        have HT2 := Lib.hid (take_more HTK.out HX.out HY.out hxy)
        rw [hq]
        clear hq hxy
        go_wp2_with fail
        go_roundw
        case rel => exact ⟨k + 1, by omega, by go_num, HT2.out, hS⟩
        case measure => simp [intOf]; omega
      · have hq : (!decide (x = y)) = true := by simp [hxy]
        have he : decide (l = m) = false := by
          simp only [decide_eq_false_iff_not]
          rintro rfl
          exact hxy (Option.some.inj (HX.out.symm.trans HY.out))
        have HE := Lib.hid he
        rw [hq]
        clear hq hxy he
        go_wp2_with fail
        go_ret
        exact ⟨by rw [HE.out]; rfl, hS⟩
    · have hkn : k = n := by omega
      have he : decide (l = m) = true := by
        have h := HTK.out
        rw [hkn, List.take_of_length_le (by rw [← HN.out]; omega), List.take_of_length_le (by rw [HN2.out]; omega)] at h
        simp [h]
      have HE := Lib.hid he
      subst hkn
      clear he
      go_wp2_with fail
      go_ret
      exact ⟨by rw [HE.out]; rfl, hbel⟩
set_option maxRecDepth 100000 in
theorem rSame_any (B : Nat) (A A' : Option Addr) (c c' : Nat) (l m : List S2) (w : World) (hl : Rd w B A (scells l)) (hm : Rd w B A' (scells m)) (hB : B ≤ w.heap.size) (hll : l.length ≤ maxLen) :
    Calls Try.prog 25 #[.slice A l.length c, .slice A' m.length c'] w fun e w' => e = .returned (.bool (decide (l = m))) ∧ Below w.heap.size w w' := by
  by_cases hlm : l.length = m.length
  case neg =>
    have he : decide (l = m) = false := by
      simp only [decide_eq_false_iff_not]; rintro rfl; exact hlm rfl
    have HE := Lib.hid he
    have hI : ((l.length : Int) != (m.length : Int)) = true := by simp; omega
    clear he hlm
    go_enter Try.func25, Try.ntmps25
    go_wp2
    go_ret
    exact ⟨by rw [HE.out]; rfl, by go_grown⟩
  have HLM := Lib.hid hlm
  obtain ⟨n, hn⟩ : ∃ n, n = l.length := ⟨_, rfl⟩
  have hn2 : m.length = n := by omega
  rw [← hn, hn2]
  have HN := Lib.hid hn
  have HN2 := Lib.hid hn2
  rw [← hn] at hll
  clear hlm hn hn2
  unfold maxLen at hll
  go_enter Try.func25, Try.ntmps25
  go_wp2
  go_loopw [5] (fun vs wr => ∃ k : Nat, k ≤ n ∧ vs = .int .i64 k ∧ l.take k = m.take k ∧ Below w.heap.size w wr) (fun vs _ => n - (intOf vs).toNat)
  case atStart => exact ⟨0, by omega, rfl, rfl, Below.refl _ _⟩
  case round =>
    obtain ⟨k, hk, rfl, htk, hbel⟩ := hrel
    have HTK := Lib.hid htk
    clear htk
    by_cases hlt : k < n
    · have hn1 := HN.out
      have hn2 := HN2.out
      obtain ⟨x, hx⟩ : ∃ v, l[k]? = some v := ⟨_, List.getElem?_eq_getElem (by omega)⟩
      obtain ⟨y, hy⟩ : ∃ v, m[k]? = some v := ⟨_, List.getElem?_eq_getElem (by omega)⟩
      obtain ⟨gb, go, rfl, hgb, q0, q1⟩ := rd_span hl hx
      obtain ⟨hb, ho, rfl, hhb, p0, p1⟩ := rd_span hm hy
      have F1 : ∀ w', Below w.heap.size w w' → w'.cell? ⟨gb, go + k * 2, none⟩ = some (.int .i64 x.1) ∧ w'.cell? ⟨gb, go + k * 2 + 1, none⟩ = some (.int .i64 x.2) := fun w' hb => ⟨(hb.cell (p := ⟨gb, go + k * 2, none⟩) (by show gb < _; omega)).trans q0, (hb.cell (p := ⟨gb, go + k * 2 + 1, none⟩) (by show gb < _; omega)).trans q1⟩
      have F2 : ∀ w', Below w.heap.size w w' → w'.cell? ⟨hb, ho + k * 2, none⟩ = some (.int .i64 y.1) ∧ w'.cell? ⟨hb, ho + k * 2 + 1, none⟩ = some (.int .i64 y.2) := fun w' hbw => ⟨(hbw.cell (p := ⟨hb, ho + k * 2, none⟩) (by show hb < _; omega)).trans p0, (hbw.cell (p := ⟨hb, ho + k * 2 + 1, none⟩) (by show hb < _; omega)).trans p1⟩
      have hkI : (k : Int) < (n : Int) := by omega
      clear q0 q1 p0 p1 hn1 hn2
      have HX := Lib.hid hx
      have HY := Lib.hid hy
      clear hx hy
      go_wp2_with fail
      refine ah_start 9 (fun w' => Below w.heap.size w w') rfl (by kernel_rfl) hbel.drew ?_ ; intro hS
      (refine mv_val 0 (v := ?_) rfl (by kernel_rfl) (by kernel_rfl) (by kernel_rfl) (fun _ _ _ h => h) (by rfl) hS ?_ ?_; rotate_left; (focus (intro w hSw; (try dsimp only at hSw); (have f1 := (F1 w hSw).1; have f2 := (F1 w hSw).2; have f4 := (F2 w hSw).1; have f5 := (F2 w hSw).2; have f7 := hlt; have f8 := neq_span x y w); go_simp; first | done | with_reducible rfl)); simp only [Act.put, List.setIfInBounds_toArray, List.set_cons_zero, List.set_cons_succ])
      (refine mv_val 1 (v := ?_) rfl (by kernel_rfl) (by kernel_rfl) (by kernel_rfl) (fun _ _ _ h => h) (by rfl) hS ?_ ?_; rotate_left; (focus (intro w hSw; (try dsimp only at hSw); (have f1 := (F1 w hSw).1; have f2 := (F1 w hSw).2; have f4 := (F2 w hSw).1; have f5 := (F2 w hSw).2; have f7 := hlt; have f8 := neq_span x y w); go_simp; first | done | with_reducible rfl)); simp only [Act.put, List.setIfInBounds_toArray, List.set_cons_zero, List.set_cons_succ])
      (refine mv_val 2 (v := ?_) rfl (by kernel_rfl) (by kernel_rfl) (by kernel_rfl) (fun _ _ _ h => h) (by rfl) hS ?_ ?_; rotate_left; (focus (intro w hSw; (try dsimp only at hSw); (have f1 := (F1 w hSw).1; have f2 := (F1 w hSw).2; have f4 := (F2 w hSw).1; have f5 := (F2 w hSw).2; have f7 := hlt; have f8 := neq_span x y w); go_simp; first | done | with_reducible rfl)); simp only [Act.put, List.setIfInBounds_toArray, List.set_cons_zero, List.set_cons_succ])
      (refine mv_val 3 (v := ?_) rfl (by kernel_rfl) (by kernel_rfl) (by kernel_rfl) (fun _ _ _ h => h) (by rfl) hS ?_ ?_; rotate_left; (focus (intro w hSw; (try dsimp only at hSw); (have f1 := (F1 w hSw).1; have f2 := (F1 w hSw).2; have f4 := (F2 w hSw).1; have f5 := (F2 w hSw).2; have f7 := hlt; have f8 := neq_span x y w); go_simp; first | done | with_reducible rfl)); simp only [Act.put, List.setIfInBounds_toArray, List.set_cons_zero, List.set_cons_succ])
      (refine mv_val 4 (v := ?_) rfl (by kernel_rfl) (by kernel_rfl) (by kernel_rfl) (fun _ _ _ h => h) (by rfl) hS ?_ ?_; rotate_left; (focus (intro w hSw; (try dsimp only at hSw); (have f1 := (F1 w hSw).1; have f2 := (F1 w hSw).2; have f4 := (F2 w hSw).1; have f5 := (F2 w hSw).2; have f7 := hlt; have f8 := neq_span x y w); go_simp; first | done | with_reducible rfl)); simp only [Act.put, List.setIfInBounds_toArray, List.set_cons_zero, List.set_cons_succ])
      (refine mv_val 5 (v := ?_) rfl (by kernel_rfl) (by kernel_rfl) (by kernel_rfl) (fun _ _ _ h => h) (by rfl) hS ?_ ?_; rotate_left; (focus (intro w hSw; (try dsimp only at hSw); (have f1 := (F1 w hSw).1; have f2 := (F1 w hSw).2; have f4 := (F2 w hSw).1; have f5 := (F2 w hSw).2; have f7 := hlt; have f8 := neq_span x y w); go_simp; first | done | with_reducible rfl)); simp only [Act.put, List.setIfInBounds_toArray, List.set_cons_zero, List.set_cons_succ])
      (refine mv_val 6 (v := ?_) rfl (by kernel_rfl) (by kernel_rfl) (by kernel_rfl) (fun _ _ _ h => h) (by rfl) hS ?_ ?_; rotate_left; (focus (intro w hSw; (try dsimp only at hSw); (have f1 := (F1 w hSw).1; have f2 := (F1 w hSw).2; have f4 := (F2 w hSw).1; have f5 := (F2 w hSw).2; have f7 := hlt; have f8 := neq_span x y w); go_simp; first | done | with_reducible rfl)); simp only [Act.put, List.setIfInBounds_toArray, List.set_cons_zero, List.set_cons_succ])
      (refine mv_val 7 (v := ?_) rfl (by kernel_rfl) (by kernel_rfl) (by kernel_rfl) (fun _ _ _ h => h) (by rfl) hS ?_ ?_; rotate_left; (focus (intro w hSw; (try dsimp only at hSw); (have f1 := (F1 w hSw).1; have f2 := (F1 w hSw).2; have f4 := (F2 w hSw).1; have f5 := (F2 w hSw).2; have f7 := hlt; have f8 := neq_span x y w); go_simp; first | done | with_reducible rfl)); simp only [Act.put, List.setIfInBounds_toArray, List.set_cons_zero, List.set_cons_succ])
      (refine mv_val 8 (v := ?_) rfl (by kernel_rfl) (by kernel_rfl) (by kernel_rfl) (fun _ _ _ h => h) (by rfl) hS ?_ ?_; rotate_left; (focus (intro w hSw; (try dsimp only at hSw); (have f1 := (F1 w hSw).1; have f2 := (F1 w hSw).2; have f4 := (F2 w hSw).1; have f5 := (F2 w hSw).2; have f7 := hlt; have f8 := neq_span x y w); go_simp; first | done | with_reducible rfl)); simp only [Act.put, List.setIfInBounds_toArray, List.set_cons_zero, List.set_cons_succ])
      refine wpAnyH_done (by kernel_rfl) ?_ _
      by_cases hxy : x = y
      · have hq : (!decide (x = y)) = false := by simp [hxy]
        have HT2 := Lib.hid (take_more HTK.out HX.out HY.out hxy)
        rw [hq]
        clear hq hxy
        go_wp2_with fail
        go_roundw
        case rel => exact ⟨k + 1, by omega, by go_num, HT2.out, hS⟩
        case measure => simp [intOf]; omega
      · have hq : (!decide (x = y)) = true := by simp [hxy]
        have he : decide (l = m) = false := by
          simp only [decide_eq_false_iff_not]
          rintro rfl
          exact hxy (Option.some.inj (HX.out.symm.trans HY.out))
        have HE := Lib.hid he
        rw [hq]
        clear hq hxy he
        go_wp2_with fail
        go_ret
        exact ⟨by rw [HE.out]; rfl, hS⟩
    · have hkn : k = n := by omega
      have he : decide (l = m) = true := by
        have h := HTK.out
        rw [hkn, List.take_of_length_le (by rw [← HN.out]; omega), List.take_of_length_le (by rw [HN2.out]; omega)] at h
        simp [h]
      have HE := Lib.hid he
      subst hkn
      clear he
      go_wp2_with fail
      go_ret
      exact ⟨by rw [HE.out]; rfl, hbel⟩
set_option maxRecDepth 100000 in
theorem equal_any (B : Nat) (A A' : Option Addr) (c c' : Nat) (l m : List S2) (w : World) (hl : Rd w B A (scells l)) (hm : Rd w B A' (scells m)) (hB : B ≤ w.heap.size) (hll : l.length ≤ maxLen) :
    Calls Try.prog 20 #[.slice A l.length c, .slice A' m.length c'] w fun e w' => e = .returned (.bool (decide (l = m))) ∧ Below w.heap.size w w' := by
  by_cases hlm : l.length = m.length
  case neg =>
    have he : decide (l = m) = false := by
      simp only [decide_eq_false_iff_not]; rintro rfl; exact hlm rfl
    have HE := Lib.hid he
    have hI : ((l.length : Int) != (m.length : Int)) = true := by simp; omega
    clear he hlm
    go_enter Try.func20, Try.ntmps20
    go_wp2
    go_ret
    exact ⟨by rw [HE.out]; rfl, by go_grown⟩
  have HLM := Lib.hid hlm
  obtain ⟨n, hn⟩ : ∃ n, n = l.length := ⟨_, rfl⟩
  have hn2 : m.length = n := by omega
  rw [← hn, hn2]
  have HN := Lib.hid hn
  have HN2 := Lib.hid hn2
  rw [← hn] at hll
  clear hlm hn hn2
  unfold maxLen at hll
  go_enter Try.func20, Try.ntmps20
  go_wp2
  go_loopw [5] (fun vs wr => ∃ k : Nat, k ≤ n ∧ vs = .int .i64 k ∧ l.take k = m.take k ∧ Below w.heap.size w wr) (fun vs _ => n - (intOf vs).toNat)
  case atStart => exact ⟨0, by omega, rfl, rfl, Below.refl _ _⟩
  case round =>
    obtain ⟨k, hk, rfl, htk, hbel⟩ := hrel
    have HTK := Lib.hid htk
    clear htk
    by_cases hlt : k < n
    · have hn1 := HN.out
      have hn2 := HN2.out
      obtain ⟨x, hx⟩ : ∃ v, l[k]? = some v := ⟨_, List.getElem?_eq_getElem (by omega)⟩
      obtain ⟨y, hy⟩ : ∃ v, m[k]? = some v := ⟨_, List.getElem?_eq_getElem (by omega)⟩
      obtain ⟨gb, go, rfl, hgb, q0, q1⟩ := rd_span hl hx
      obtain ⟨hb, ho, rfl, hhb, p0, p1⟩ := rd_span hm hy
      have F1 : ∀ w', Below w.heap.size w w' → w'.cell? ⟨gb, go + k * 2, none⟩ = some (.int .i64 x.1) ∧ w'.cell? ⟨gb, go + k * 2 + 1, none⟩ = some (.int .i64 x.2) := fun w' hb => ⟨(hb.cell (p := ⟨gb, go + k * 2, none⟩) (by show gb < _; omega)).trans q0, (hb.cell (p := ⟨gb, go + k * 2 + 1, none⟩) (by show gb < _; omega)).trans q1⟩
      have F2 : ∀ w', Below w.heap.size w w' → w'.cell? ⟨hb, ho + k * 2, none⟩ = some (.int .i64 y.1) ∧ w'.cell? ⟨hb, ho + k * 2 + 1, none⟩ = some (.int .i64 y.2) := fun w' hbw => ⟨(hbw.cell (p := ⟨hb, ho + k * 2, none⟩) (by show hb < _; omega)).trans p0, (hbw.cell (p := ⟨hb, ho + k * 2 + 1, none⟩) (by show hb < _; omega)).trans p1⟩
      have hkI : (k : Int) < (n : Int) := by omega
      clear q0 q1 p0 p1 hn1 hn2
      have HX := Lib.hid hx
      have HY := Lib.hid hy
      clear hx hy
      go_wp2_with fail
      refine ah_start 9 (fun w' => Below w.heap.size w w') rfl (by kernel_rfl) hbel.drew ?_ ; intro hS
      (refine mv_val 0 (v := ?_) rfl (by kernel_rfl) (by kernel_rfl) (by kernel_rfl) (fun _ _ _ h => h) (by rfl) hS ?_ ?_; rotate_left; (focus (intro w hSw; (try dsimp only at hSw); (have f1 := (F1 w hSw).1; have f2 := (F1 w hSw).2; have f4 := (F2 w hSw).1; have f5 := (F2 w hSw).2; have f7 := hlt; have f8 := neq_span x y w); go_simp; first | done | with_reducible rfl)); simp only [Act.put, List.setIfInBounds_toArray, List.set_cons_zero, List.set_cons_succ])
      (refine mv_val 1 (v := ?_) rfl (by kernel_rfl) (by kernel_rfl) (by kernel_rfl) (fun _ _ _ h => h) (by rfl) hS ?_ ?_; rotate_left; (focus (intro w hSw; (try dsimp only at hSw); (have f1 := (F1 w hSw).1; have f2 := (F1 w hSw).2; have f4 := (F2 w hSw).1; have f5 := (F2 w hSw).2; have f7 := hlt; have f8 := neq_span x y w); go_simp; first | done | with_reducible rfl)); simp only [Act.put, List.setIfInBounds_toArray, List.set_cons_zero, List.set_cons_succ])
      (refine mv_val 2 (v := ?_) rfl (by kernel_rfl) (by kernel_rfl) (by kernel_rfl) (fun _ _ _ h => h) (by rfl) hS ?_ ?_; rotate_left; (focus (intro w hSw; (try dsimp only at hSw); (have f1 := (F1 w hSw).1; have f2 := (F1 w hSw).2; have f4 := (F2 w hSw).1; have f5 := (F2 w hSw).2; have f7 := hlt; have f8 := neq_span x y w); go_simp; first | done | with_reducible rfl)); simp only [Act.put, List.setIfInBounds_toArray, List.set_cons_zero, List.set_cons_succ])
      (refine mv_val 3 (v := ?_) rfl (by kernel_rfl) (by kernel_rfl) (by kernel_rfl) (fun _ _ _ h => h) (by rfl) hS ?_ ?_; rotate_left; (focus (intro w hSw; (try dsimp only at hSw); (have f1 := (F1 w hSw).1; have f2 := (F1 w hSw).2; have f4 := (F2 w hSw).1; have f5 := (F2 w hSw).2; have f7 := hlt; have f8 := neq_span x y w); go_simp; first | done | with_reducible rfl)); simp only [Act.put, List.setIfInBounds_toArray, List.set_cons_zero, List.set_cons_succ])
      (refine mv_val 4 (v := ?_) rfl (by kernel_rfl) (by kernel_rfl) (by kernel_rfl) (fun _ _ _ h => h) (by rfl) hS ?_ ?_; rotate_left; (focus (intro w hSw; (try dsimp only at hSw); (have f1 := (F1 w hSw).1; have f2 := (F1 w hSw).2; have f4 := (F2 w hSw).1; have f5 := (F2 w hSw).2; have f7 := hlt; have f8 := neq_span x y w); go_simp; first | done | with_reducible rfl)); simp only [Act.put, List.setIfInBounds_toArray, List.set_cons_zero, List.set_cons_succ])
      (refine mv_val 5 (v := ?_) rfl (by kernel_rfl) (by kernel_rfl) (by kernel_rfl) (fun _ _ _ h => h) (by rfl) hS ?_ ?_; rotate_left; (focus (intro w hSw; (try dsimp only at hSw); (have f1 := (F1 w hSw).1; have f2 := (F1 w hSw).2; have f4 := (F2 w hSw).1; have f5 := (F2 w hSw).2; have f7 := hlt; have f8 := neq_span x y w); go_simp; first | done | with_reducible rfl)); simp only [Act.put, List.setIfInBounds_toArray, List.set_cons_zero, List.set_cons_succ])
      (refine mv_val 6 (v := ?_) rfl (by kernel_rfl) (by kernel_rfl) (by kernel_rfl) (fun _ _ _ h => h) (by rfl) hS ?_ ?_; rotate_left; (focus (intro w hSw; (try dsimp only at hSw); (have f1 := (F1 w hSw).1; have f2 := (F1 w hSw).2; have f4 := (F2 w hSw).1; have f5 := (F2 w hSw).2; have f7 := hlt; have f8 := neq_span x y w); go_simp; first | done | with_reducible rfl)); simp only [Act.put, List.setIfInBounds_toArray, List.set_cons_zero, List.set_cons_succ])
      (refine mv_val 7 (v := ?_) rfl (by kernel_rfl) (by kernel_rfl) (by kernel_rfl) (fun _ _ _ h => h) (by rfl) hS ?_ ?_; rotate_left; (focus (intro w hSw; (try dsimp only at hSw); (have f1 := (F1 w hSw).1; have f2 := (F1 w hSw).2; have f4 := (F2 w hSw).1; have f5 := (F2 w hSw).2; have f7 := hlt; have f8 := neq_span x y w); go_simp; first | done | with_reducible rfl)); simp only [Act.put, List.setIfInBounds_toArray, List.set_cons_zero, List.set_cons_succ])
      (refine mv_val 8 (v := ?_) rfl (by kernel_rfl) (by kernel_rfl) (by kernel_rfl) (fun _ _ _ h => h) (by rfl) hS ?_ ?_; rotate_left; (focus (intro w hSw; (try dsimp only at hSw); (have f1 := (F1 w hSw).1; have f2 := (F1 w hSw).2; have f4 := (F2 w hSw).1; have f5 := (F2 w hSw).2; have f7 := hlt; have f8 := neq_span x y w); go_simp; first | done | with_reducible rfl)); simp only [Act.put, List.setIfInBounds_toArray, List.set_cons_zero, List.set_cons_succ])
      refine wpAnyH_done (by kernel_rfl) ?_ _
      by_cases hxy : x = y
      · have hq : (!decide (x = y)) = false := by simp [hxy]
        have HT2 := Lib.hid (take_more HTK.out HX.out HY.out hxy)
        rw [hq]
        clear hq hxy
        go_wp2_with fail
        go_roundw
        case rel => exact ⟨k + 1, by omega, by go_num, HT2.out, hS⟩
        case measure => simp [intOf]; omega
      · have hq : (!decide (x = y)) = true := by simp [hxy]
        have he : decide (l = m) = false := by
          simp only [decide_eq_false_iff_not]
          rintro rfl
          exact hxy (Option.some.inj (HX.out.symm.trans HY.out))
        have HE := Lib.hid he
        rw [hq]
        clear hq hxy he
        go_wp2_with fail
        go_ret
        exact ⟨by rw [HE.out]; rfl, hS⟩
    · have hkn : k = n := by omega
      have he : decide (l = m) = true := by
        have h := HTK.out
        rw [hkn, List.take_of_length_le (by rw [← HN.out]; omega), List.take_of_length_le (by rw [HN2.out]; omega)] at h
        simp [h]
      have HE := Lib.hid he
      subst hkn
      clear he
      go_wp2_with fail
      go_ret
      exact ⟨by rw [HE.out]; rfl, hbel⟩

/-! ### Has -/
theorem has1_any (q : Nat) (t : Int) (v : S2) (w : World) (hq : w.cell? ⟨q, 0, none⟩ = some (.int .i64 t)) :
    Calls Try.prog 40 #[sa v, .pointer (some ⟨q, 0, none⟩)] w fun e w' => e = .returned (.bool (inS v t)) ∧ Below w.heap.size w w' := by
  have M0 := fun w => has_any v.1 v.2 t w
  have he : decide (v.1 ≤ t ∧ t < v.2) = inS v t := by unfold inS; rw [Bool.decide_and]
  obtain ⟨m, hm⟩ : ∃ m, m = inS v t := ⟨_, rfl⟩
  rw [he, ← hm] at M0
  rw [← hm]
  have HM := Lib.hid M0
  have ha : ∀ o, (w.alloc o).cell? ⟨q, 0, none⟩ = some (.int .i64 t) := fun o => cell_al hq (cell_lt hq) o
  clear hm M0 hq he
  obtain ⟨a, b⟩ := v
  go_enter Try.func40, Try.ntmps40
  go_wp2_with fail
  refine (HM.out _).mono ?_; rintro e w2 ⟨rfl, hb2⟩
  have hb : Below w.heap.size w w2 := ((Below.refl _ w).alloc (Nat.le_refl _) _).trans (hb2.mono (by simp))
  go_wp2_with fail
  go_ret
  exact ⟨rfl, hb⟩
set_option maxRecDepth 100000 in
theorem sHas_any (B : Nat) (A : Option Addr) (c : Nat) (l : List S2) (t : Int) (w : World) (hl : Rd w B A (scells l)) (hB : B ≤ w.heap.size) (hll : l.length ≤ 1000000000) :
    Calls Try.prog 17 #[.slice A l.length c, .int .i64 t] w fun e w' => e = .returned (.bool (hasB l t)) ∧ Below w.heap.size w w' := by
  have C0 := fun (W : World) => contains1_any B A c l 40 (.pointer (some ⟨w.heap.size, 0, none⟩)) (fun s => inS s t) (w.alloc (.cells #[.int .i64 t] 2)) (hl.alloc hB _) (by simp; omega) hll (fun _ _ => by kernel_rfl) (fun w' h v hv => has1_any w.heap.size t v w' (cell_be (by simp [go_sem]) h (by simp)))
  have HC := Lib.hid (C0 w)
  have he : (l.any fun s => inS s t) = hasB l t := rfl
  rw [he] at HC
  obtain ⟨m, hm⟩ : ∃ m, m = hasB l t := ⟨_, rfl⟩
  rw [← hm] at HC ⊢
  clear C0 he hm
  go_enter Try.func17, Try.ntmps17
  go_wp2_with fail
  refine HC.out.mono ?_; rintro e w2 ⟨rfl, hb2⟩
  have hb : Below w.heap.size w w2 := ((Below.refl _ w).alloc (Nat.le_refl _) _).trans (hb2.mono (by simp))
  go_wp2_with fail
  go_ret
  exact ⟨rfl, hb⟩
set_option maxRecDepth 100000 in
theorem own_any (B : Nat) (A : Option Addr) (c : Nat) (l : List S2) (w : World) (hr : Rd w B A (scells l)) (hB : B ≤ w.heap.size) (hl : l.length ≤ 1000000000) :
    Calls Try.prog 13 #[.slice A l.length c] w (RetSs w l) := by
  obtain ⟨by_, HEL, hby⟩ := El_span
  go_enter Try.func13, Try.ntmps13
  go_wp2_with (at_builtin; refine wpList_app HEL rfl _ _ rfl (World.ownsRow_nil w w.heap.size 27 2) rfl rfl hr (scells_length l) (scells_one l) (by unfold maxLen; omega) (by have : (0 + l.length) * by_ ≤ 1000000000 * 64 := Nat.mul_le_mul (by omega) hby; omega) (Nat.le_refl _) ?_; intro v4 w4 hown4 hg4 _; rw [Nat.zero_add, List.nil_append] at hown4)
  have hb4 : Below w.heap.size w w4 := own_below (World.ownsRow_nil w w.heap.size 27 2) hg4 (Nat.le_refl _)
  go_ret
  exact retSs_of hown4 hb4
end Go.Proofs.Ytiohdacbnigpkaa

/- The reference's May, Less, Same, Rows (layer 3), walked. No condition. -/
import Derived.Test.YtdbhbfpfcdklmaaKey5
namespace Go.Proofs.Ytdbhbfpfcdklmaa
open Go.RowKit
set_option linter.unusedVariables false
set_option linter.unusedSimpArgs false

theorem txt_inj {a b : List UInt8} : txt a = txt b ↔ a = b := by
  constructor
  · intro h; simp at h; exact h
  · rintro rfl; rfl

/-- how a region spells 'x != y' of two values -/
theorem neq_val (x y : V) (w : World) : (if (x.k : Int) = (y.k : Int) then if x.n = y.n then if x.t = y.t then (Result.ok (Next.value (.bool false)) w : Result Next) else Result.ok (Next.value (.bool true)) w else Result.ok (Next.value (.bool true)) w else Result.ok (Next.value (.bool true)) w)
    = Result.ok (Next.value (.bool (!decide (x = y)))) w := by
  obtain ⟨a, b, c⟩ := x
  obtain ⟨a', b', c'⟩ := y
  dsimp only
  by_cases h1 : a = a'
  · by_cases h2 : b = b'
    · by_cases h3 : c = c'
      · subst h1 h2 h3; simp
      · simp [h1, h2, h3]
    · simp [h2]
  · have : ¬ (a : Int) = (a' : Int) := by omega
    simp [h1, this]
theorem take_more {α : Type} {l m : List α} {k : Nat} {x y : α} (h : l.take k = m.take k) (hx : l[k]? = some x) (hy : m[k]? = some y) (hxy : x = y) : l.take (k + 1) = m.take (k + 1) := by
  rw [List.take_add_one, List.take_add_one, hx, hy, h, hxy]

set_option maxRecDepth 100000 in
theorem Same_any (B : Nat) (A A' : Option Addr) (c c' : Nat) (l m : List V) (w : World) (hl : Rd w B A (vcells l)) (hm : Rd w B A' (vcells m)) (hB : B ≤ w.heap.size) (hll : l.length ≤ maxLen) :
    Calls Try.prog 12 #[.slice A l.length c, .slice A' m.length c'] w fun e w' => e = .returned (.bool (decide (l = m))) ∧ Below w.heap.size w w' := by
  by_cases hlm : l.length = m.length
  case neg =>
    have he : decide (l = m) = false := by
      simp only [decide_eq_false_iff_not]; rintro rfl; exact hlm rfl
    have HE := Lib.hid he
    have hI : ((l.length : Int) != (m.length : Int)) = true := by simp; omega
    clear he hlm
    go_enter Try.func12, Try.ntmps12
    go_wp2
    go_ret
    exact ⟨by rw [HE.out]; rfl, by go_grown⟩
  have HLM := Lib.hid hlm
  obtain ⟨n, hn⟩ : ∃ n, n = l.length := ⟨_, rfl⟩
  have hn2 : m.length = n := by omega
  rw [← hn, hn2]
  have HN := Lib.hid hn
  have HN2 := Lib.hid hn2
  rw [← hn] at hll
  clear hlm hn hn2
  unfold maxLen at hll
  go_enter Try.func12, Try.ntmps12
  go_wp2
  go_loopw [5] (fun v5 wr => ∃ k : Nat, k ≤ n ∧ v5 = .int .i64 k ∧ l.take k = m.take k ∧ Below w.heap.size w wr) (fun v5 _ => n - (intOf v5).toNat)
  case atStart => exact ⟨0, by omega, rfl, rfl, Below.refl _ _⟩
  case round =>
    obtain ⟨k, hk, rfl, htk, hbel⟩ := hrel
    have HTK := Lib.hid htk
    clear htk
    by_cases hlt : k < n
    · have hn1 := HN.out
      have hn2 := HN2.out
      obtain ⟨x, hx⟩ : ∃ v, l[k]? = some v := ⟨_, List.getElem?_eq_getElem (by omega)⟩
      obtain ⟨y, hy⟩ : ∃ v, m[k]? = some v := ⟨_, List.getElem?_eq_getElem (by omega)⟩
      obtain ⟨gb, go, rfl, hgb, q0, q1, q2⟩ := rd_val hl hx
      obtain ⟨hb, ho, rfl, hhb, p0, p1, p2⟩ := rd_val hm hy
      have F1 : ∀ w', Below w.heap.size w w' → w'.cell? ⟨gb, go + k * 3, none⟩ = some (.int .u8 (x.k : Int)) ∧ w'.cell? ⟨gb, go + k * 3 + 1, none⟩ = some (.int .i64 x.n) ∧ w'.cell? ⟨gb, go + k * 3 + 2, none⟩ = some (txt x.t) := fun w' hb => ⟨(hb.cell (p := ⟨gb, go + k * 3, none⟩) (by show gb < _; omega)).trans q0, (hb.cell (p := ⟨gb, go + k * 3 + 1, none⟩) (by show gb < _; omega)).trans q1, (hb.cell (p := ⟨gb, go + k * 3 + 2, none⟩) (by show gb < _; omega)).trans q2⟩
      have F2 : ∀ w', Below w.heap.size w w' → w'.cell? ⟨hb, ho + k * 3, none⟩ = some (.int .u8 (y.k : Int)) ∧ w'.cell? ⟨hb, ho + k * 3 + 1, none⟩ = some (.int .i64 y.n) ∧ w'.cell? ⟨hb, ho + k * 3 + 2, none⟩ = some (txt y.t) := fun w' hbw => ⟨(hbw.cell (p := ⟨hb, ho + k * 3, none⟩) (by show hb < _; omega)).trans p0, (hbw.cell (p := ⟨hb, ho + k * 3 + 1, none⟩) (by show hb < _; omega)).trans p1, (hbw.cell (p := ⟨hb, ho + k * 3 + 2, none⟩) (by show hb < _; omega)).trans p2⟩
      have hkI : (k : Int) < (n : Int) := by omega
      clear q0 q1 q2 p0 p1 p2 hn1 hn2
      have HX := Lib.hid hx
      have HY := Lib.hid hy
      clear hx hy
      go_wp2_with fail
      refine ah_start 9 (fun w' => Below w.heap.size w w') rfl (by kernel_rfl) hbel.drew ?_ ; intro hS
      (refine mv_val 0 (v := ?_) rfl (by kernel_rfl) (by kernel_rfl) (by kernel_rfl) (fun _ _ _ h => h) (by rfl) hS ?_ ?_; rotate_left; (focus (intro w hSw; (try dsimp only at hSw); (have f1 := (F1 w hSw).1; have f2 := (F1 w hSw).2.1; have f3 := (F1 w hSw).2.2; have f4 := (F2 w hSw).1; have f5 := (F2 w hSw).2.1; have f6 := (F2 w hSw).2.2; have f7 := hlt; have f8 := neq_val x y w); go_simp; first | done | with_reducible rfl)); simp only [Act.put, List.setIfInBounds_toArray, List.set_cons_zero, List.set_cons_succ])
      (refine mv_val 1 (v := ?_) rfl (by kernel_rfl) (by kernel_rfl) (by kernel_rfl) (fun _ _ _ h => h) (by rfl) hS ?_ ?_; rotate_left; (focus (intro w hSw; (try dsimp only at hSw); (have f1 := (F1 w hSw).1; have f2 := (F1 w hSw).2.1; have f3 := (F1 w hSw).2.2; have f4 := (F2 w hSw).1; have f5 := (F2 w hSw).2.1; have f6 := (F2 w hSw).2.2; have f7 := hlt; have f8 := neq_val x y w); go_simp; first | done | with_reducible rfl)); simp only [Act.put, List.setIfInBounds_toArray, List.set_cons_zero, List.set_cons_succ])
      (refine mv_val 2 (v := ?_) rfl (by kernel_rfl) (by kernel_rfl) (by kernel_rfl) (fun _ _ _ h => h) (by rfl) hS ?_ ?_; rotate_left; (focus (intro w hSw; (try dsimp only at hSw); (have f1 := (F1 w hSw).1; have f2 := (F1 w hSw).2.1; have f3 := (F1 w hSw).2.2; have f4 := (F2 w hSw).1; have f5 := (F2 w hSw).2.1; have f6 := (F2 w hSw).2.2; have f7 := hlt; have f8 := neq_val x y w); go_simp; first | done | with_reducible rfl)); simp only [Act.put, List.setIfInBounds_toArray, List.set_cons_zero, List.set_cons_succ])
      (refine mv_val 3 (v := ?_) rfl (by kernel_rfl) (by kernel_rfl) (by kernel_rfl) (fun _ _ _ h => h) (by rfl) hS ?_ ?_; rotate_left; (focus (intro w hSw; (try dsimp only at hSw); (have f1 := (F1 w hSw).1; have f2 := (F1 w hSw).2.1; have f3 := (F1 w hSw).2.2; have f4 := (F2 w hSw).1; have f5 := (F2 w hSw).2.1; have f6 := (F2 w hSw).2.2; have f7 := hlt; have f8 := neq_val x y w); go_simp; first | done | with_reducible rfl)); simp only [Act.put, List.setIfInBounds_toArray, List.set_cons_zero, List.set_cons_succ])
      (refine mv_val 4 (v := ?_) rfl (by kernel_rfl) (by kernel_rfl) (by kernel_rfl) (fun _ _ _ h => h) (by rfl) hS ?_ ?_; rotate_left; (focus (intro w hSw; (try dsimp only at hSw); (have f1 := (F1 w hSw).1; have f2 := (F1 w hSw).2.1; have f3 := (F1 w hSw).2.2; have f4 := (F2 w hSw).1; have f5 := (F2 w hSw).2.1; have f6 := (F2 w hSw).2.2; have f7 := hlt; have f8 := neq_val x y w); go_simp; first | done | with_reducible rfl)); simp only [Act.put, List.setIfInBounds_toArray, List.set_cons_zero, List.set_cons_succ])
      (refine mv_val 5 (v := ?_) rfl (by kernel_rfl) (by kernel_rfl) (by kernel_rfl) (fun _ _ _ h => h) (by rfl) hS ?_ ?_; rotate_left; (focus (intro w hSw; (try dsimp only at hSw); (have f1 := (F1 w hSw).1; have f2 := (F1 w hSw).2.1; have f3 := (F1 w hSw).2.2; have f4 := (F2 w hSw).1; have f5 := (F2 w hSw).2.1; have f6 := (F2 w hSw).2.2; have f7 := hlt; have f8 := neq_val x y w); go_simp; first | done | with_reducible rfl)); simp only [Act.put, List.setIfInBounds_toArray, List.set_cons_zero, List.set_cons_succ])
      (refine mv_val 6 (v := ?_) rfl (by kernel_rfl) (by kernel_rfl) (by kernel_rfl) (fun _ _ _ h => h) (by rfl) hS ?_ ?_; rotate_left; (focus (intro w hSw; (try dsimp only at hSw); (have f1 := (F1 w hSw).1; have f2 := (F1 w hSw).2.1; have f3 := (F1 w hSw).2.2; have f4 := (F2 w hSw).1; have f5 := (F2 w hSw).2.1; have f6 := (F2 w hSw).2.2; have f7 := hlt; have f8 := neq_val x y w); go_simp; first | done | with_reducible rfl)); simp only [Act.put, List.setIfInBounds_toArray, List.set_cons_zero, List.set_cons_succ])
      (refine mv_val 7 (v := ?_) rfl (by kernel_rfl) (by kernel_rfl) (by kernel_rfl) (fun _ _ _ h => h) (by rfl) hS ?_ ?_; rotate_left; (focus (intro w hSw; (try dsimp only at hSw); (have f1 := (F1 w hSw).1; have f2 := (F1 w hSw).2.1; have f3 := (F1 w hSw).2.2; have f4 := (F2 w hSw).1; have f5 := (F2 w hSw).2.1; have f6 := (F2 w hSw).2.2; have f7 := hlt; have f8 := neq_val x y w); go_simp; first | done | with_reducible rfl)); simp only [Act.put, List.setIfInBounds_toArray, List.set_cons_zero, List.set_cons_succ])
      (refine mv_val 8 (v := ?_) rfl (by kernel_rfl) (by kernel_rfl) (by kernel_rfl) (fun _ _ _ h => h) (by rfl) hS ?_ ?_; rotate_left; (focus (intro w hSw; (try dsimp only at hSw); (have f1 := (F1 w hSw).1; have f2 := (F1 w hSw).2.1; have f3 := (F1 w hSw).2.2; have f4 := (F2 w hSw).1; have f5 := (F2 w hSw).2.1; have f6 := (F2 w hSw).2.2; have f7 := hlt; have f8 := neq_val x y w); go_simp; first | done | with_reducible rfl)); simp only [Act.put, List.setIfInBounds_toArray, List.set_cons_zero, List.set_cons_succ])
      refine wpAnyH_done (by kernel_rfl) ?_ _
      by_cases hxy : x = y
      · have hq : (!decide (x = y)) = false := by simp [hxy]
        have HT2 := Lib.hid (take_more HTK.out HX.out HY.out hxy)
        rw [hq]
        clear hq hxy
        go_wp2_with fail
        go_roundw
        case rel => exact ⟨k + 1, by omega, by go_num, HT2.out, hS⟩
        case measure => simp [intOf]; omega
      · have hq : (!decide (x = y)) = true := by simp [hxy]
        have he : decide (l = m) = false := by
          simp only [decide_eq_false_iff_not]
          rintro rfl
          exact hxy (Option.some.inj (HX.out.symm.trans HY.out))
        have HE := Lib.hid he
        rw [hq]
        clear hq hxy he
        go_wp2_with fail
        go_ret
        exact ⟨by rw [HE.out]; rfl, hS⟩
    · have hkn : k = n := by omega
      have he : decide (l = m) = true := by
        have h := HTK.out
        rw [hkn, List.take_of_length_le (by rw [← HN.out]; omega), List.take_of_length_le (by rw [HN2.out]; omega)] at h
        simp [h]
      have HE := Lib.hid he
      subst hkn
      clear he
      go_wp2_with fail
      go_ret
      exact ⟨by rw [HE.out]; rfl, hbel⟩

def lessV (x y : V) : Bool := if x.k = y.k then (if x.k = 3 then Op.bytesLess x.t y.t else decide (x.n < y.n)) else decide (x.k < y.k)
set_option maxRecDepth 100000 in
theorem Less_any (x y : V) (w : World) :
    Calls Try.prog 22 #[va x, va y] w fun e w' => e = .returned (.bool (lessV x y)) ∧ Below w.heap.size w w' := by
  obtain ⟨a, b, c⟩ := x
  obtain ⟨a', b', c'⟩ := y
  unfold lessV
  dsimp only
  by_cases h : a = a'
  · subst h
    rw [if_pos rfl]
    by_cases h3 : a = 3
    · subst h3
      rw [if_pos rfl]
      go_enter Try.func22, Try.ntmps22
      go_wp2
      go_ret
      exact ⟨rfl, by go_grown⟩
    · rw [if_neg h3]
      have hI : ((a : Int) == 3) = false := by simp; omega
      clear h3
      go_enter Try.func22, Try.ntmps22
      go_wp2
      go_ret
      exact ⟨rfl, by go_grown⟩
  · rw [if_neg h]
    have hI : ((a : Int) != (a' : Int)) = true := by simp; omega
    clear h
    go_enter Try.func22, Try.ntmps22
    go_wp2
    go_ret
    exact ⟨by simp, by go_grown⟩
set_option maxRecDepth 100000 in
theorem May_any (v : V) (hk : v.k < 256) (w : World) :
    Calls Try.prog 20 #[va v] w fun e w' => e = .returned (.bool (mayB v)) ∧ Below w.heap.size w w' := by
  obtain ⟨k, n, t⟩ := v
  rw [mayB_cases]
  dsimp only at hk ⊢
  rcases (by omega : k = 0 ∨ k = 1 ∨ k = 2 ∨ k = 3 ∨ 3 < k) with rfl | rfl | rfl | rfl | h3
  case inr.inr.inr.inr =>
    rw [if_neg (by omega), if_neg (by omega), if_neg (by omega), if_neg (by omega)]
    have h3I : (3 : Int) < (k : Int) := by omega
    clear hk h3
    go_enter Try.func20, Try.ntmps20
    go_wp2
    go_ret
    exact ⟨rfl, by go_grown⟩
  all_goals
    go_enter Try.func20, Try.ntmps20
    go_wp2
  all_goals go_ret
  all_goals refine ⟨?_, by go_grown⟩
  all_goals (first | (simp; done) | (simp_all [isEmpty_dec]; done) | (by_cases hn1 : n = 1 <;> cases t <;> simp_all; done))

def rowsL : List V → List V → Bool
  | [], [] => false
  | [], _ :: _ => true
  | _ :: _, [] => false
  | x :: l, y :: m => if x = y then rowsL l m else lessV x y
theorem rowsL_drop : ∀ (k : Nat) (l m : List V), l.take k = m.take k → k ≤ l.length → k ≤ m.length → rowsL l m = rowsL (l.drop k) (m.drop k)
  | 0, l, m, _, _, _ => by simp
  | k + 1, [], m, _, h, _ => by simp at h
  | k + 1, l, [], _, _, h => by simp at h
  | k + 1, x :: l, y :: m, h, hl, hm => by
    simp only [List.take_succ_cons, List.cons.injEq] at h
    simp only [List.drop_succ_cons]
    rw [← rowsL_drop k l m h.2 (by simpa using hl) (by simpa using hm)]
    conv => lhs; unfold rowsL
    rw [if_pos h.1]
theorem rowsL_end (l m : List V) (h : l = [] ∨ m = []) : rowsL l m = decide (l.length < m.length) := by
  rcases h with rfl | rfl
  · cases m <;> simp [rowsL]
  · cases l <;> simp [rowsL]
theorem rowsL_ne {l m : List V} {k : Nat} {x y : V} (h : l.take k = m.take k) (hx : l[k]? = some x) (hy : m[k]? = some y) (hxy : x ≠ y) : rowsL l m = lessV x y := by
  obtain ⟨h1, e1⟩ := List.getElem?_eq_some_iff.1 hx
  obtain ⟨h2, e2⟩ := List.getElem?_eq_some_iff.1 hy
  rw [rowsL_drop k l m h (by omega) (by omega), List.drop_eq_getElem_cons h1, List.drop_eq_getElem_cons h2, e1, e2]
  conv => lhs; unfold rowsL
  rw [if_neg hxy]

set_option maxHeartbeats 1000000 in
set_option maxRecDepth 100000 in
theorem Rows_any (B : Nat) (A A' : Option Addr) (c c' : Nat) (l m : List V) (w : World) (hl : Rd w B A (vcells l)) (hm : Rd w B A' (vcells m)) (hB : B ≤ w.heap.size) (hll : l.length ≤ maxLen) (hml : m.length ≤ maxLen) :
    Calls Try.prog 15 #[.slice A l.length c, .slice A' m.length c'] w fun e w' => e = .returned (.bool (rowsL l m)) ∧ Below w.heap.size w w' := by
  obtain ⟨n, hn⟩ : ∃ n, n = l.length := ⟨_, rfl⟩
  obtain ⟨p, hp⟩ : ∃ p, p = m.length := ⟨_, rfl⟩
  rw [← hn, ← hp]
  have HN := Lib.hid hn
  have HP := Lib.hid hp
  rw [← hn] at hll
  rw [← hp] at hml
  clear hn hp
  unfold maxLen at hll hml
  go_enter Try.func15, Try.ntmps15
  go_wp2
  go_loopw [5] (fun v5 wr => ∃ k : Nat, k ≤ n ∧ k ≤ p ∧ v5 = .int .i64 k ∧ l.take k = m.take k ∧ Below w.heap.size w wr) (fun v5 _ => n - (intOf v5).toNat)
  case atStart => exact ⟨0, by omega, by omega, rfl, rfl, Below.refl _ _⟩
  case round =>
    obtain ⟨k, hk, hkp, rfl, htk, hbel⟩ := hrel
    have HTK := Lib.hid htk
    clear htk
    by_cases hlt : k < n ∧ k < p
    · obtain ⟨hlt, hlt2⟩ := hlt
      have hn1 := HN.out
      have hn2 := HP.out
      obtain ⟨x, hx⟩ : ∃ v, l[k]? = some v := ⟨_, List.getElem?_eq_getElem (by omega)⟩
      obtain ⟨y, hy⟩ : ∃ v, m[k]? = some v := ⟨_, List.getElem?_eq_getElem (by omega)⟩
      obtain ⟨gb, go, rfl, hgb, q0, q1, q2⟩ := rd_val hl hx
      obtain ⟨hb, ho, rfl, hhb, p0, p1, p2⟩ := rd_val hm hy
      have F1 : ∀ w', Below w.heap.size w w' → w'.cell? ⟨gb, go + k * 3, none⟩ = some (.int .u8 (x.k : Int)) ∧ w'.cell? ⟨gb, go + k * 3 + 1, none⟩ = some (.int .i64 x.n) ∧ w'.cell? ⟨gb, go + k * 3 + 2, none⟩ = some (txt x.t) := fun w' hb => ⟨(hb.cell (p := ⟨gb, go + k * 3, none⟩) (by show gb < _; omega)).trans q0, (hb.cell (p := ⟨gb, go + k * 3 + 1, none⟩) (by show gb < _; omega)).trans q1, (hb.cell (p := ⟨gb, go + k * 3 + 2, none⟩) (by show gb < _; omega)).trans q2⟩
      have F2 : ∀ w', Below w.heap.size w w' → w'.cell? ⟨hb, ho + k * 3, none⟩ = some (.int .u8 (y.k : Int)) ∧ w'.cell? ⟨hb, ho + k * 3 + 1, none⟩ = some (.int .i64 y.n) ∧ w'.cell? ⟨hb, ho + k * 3 + 2, none⟩ = some (txt y.t) := fun w' hbw => ⟨(hbw.cell (p := ⟨hb, ho + k * 3, none⟩) (by show hb < _; omega)).trans p0, (hbw.cell (p := ⟨hb, ho + k * 3 + 1, none⟩) (by show hb < _; omega)).trans p1, (hbw.cell (p := ⟨hb, ho + k * 3 + 2, none⟩) (by show hb < _; omega)).trans p2⟩
      have hkI : (k : Int) < (n : Int) := by omega
      have hkJ : (k : Int) < (p : Int) := by omega
      clear q0 q1 q2 p0 p1 p2 hn1 hn2
      have HX := Lib.hid hx
      have HY := Lib.hid hy
      clear hx hy
      go_wp2_with fail
      refine ah_start 9 (fun w' => Below w.heap.size w w') rfl (by kernel_rfl) hbel.drew ?_ ; intro hS
      (refine mv_val 0 (v := ?_) rfl (by kernel_rfl) (by kernel_rfl) (by kernel_rfl) (fun _ _ _ h => h) (by rfl) hS ?_ ?_; rotate_left; (focus (intro w hSw; (try dsimp only at hSw); (have f1 := (F1 w hSw).1; have f2 := (F1 w hSw).2.1; have f3 := (F1 w hSw).2.2; have f4 := (F2 w hSw).1; have f5 := (F2 w hSw).2.1; have f6 := (F2 w hSw).2.2; have f7 := hlt; have f8 := neq_val x y w; have f9 := hlt2); go_simp; first | done | with_reducible rfl)); simp only [Act.put, List.setIfInBounds_toArray, List.set_cons_zero, List.set_cons_succ])
      (refine mv_val 1 (v := ?_) rfl (by kernel_rfl) (by kernel_rfl) (by kernel_rfl) (fun _ _ _ h => h) (by rfl) hS ?_ ?_; rotate_left; (focus (intro w hSw; (try dsimp only at hSw); (have f1 := (F1 w hSw).1; have f2 := (F1 w hSw).2.1; have f3 := (F1 w hSw).2.2; have f4 := (F2 w hSw).1; have f5 := (F2 w hSw).2.1; have f6 := (F2 w hSw).2.2; have f7 := hlt; have f8 := neq_val x y w; have f9 := hlt2); go_simp; first | done | with_reducible rfl)); simp only [Act.put, List.setIfInBounds_toArray, List.set_cons_zero, List.set_cons_succ])
      (refine mv_val 2 (v := ?_) rfl (by kernel_rfl) (by kernel_rfl) (by kernel_rfl) (fun _ _ _ h => h) (by rfl) hS ?_ ?_; rotate_left; (focus (intro w hSw; (try dsimp only at hSw); (have f1 := (F1 w hSw).1; have f2 := (F1 w hSw).2.1; have f3 := (F1 w hSw).2.2; have f4 := (F2 w hSw).1; have f5 := (F2 w hSw).2.1; have f6 := (F2 w hSw).2.2; have f7 := hlt; have f8 := neq_val x y w; have f9 := hlt2); go_simp; first | done | with_reducible rfl)); simp only [Act.put, List.setIfInBounds_toArray, List.set_cons_zero, List.set_cons_succ])
      (refine mv_val 3 (v := ?_) rfl (by kernel_rfl) (by kernel_rfl) (by kernel_rfl) (fun _ _ _ h => h) (by rfl) hS ?_ ?_; rotate_left; (focus (intro w hSw; (try dsimp only at hSw); (have f1 := (F1 w hSw).1; have f2 := (F1 w hSw).2.1; have f3 := (F1 w hSw).2.2; have f4 := (F2 w hSw).1; have f5 := (F2 w hSw).2.1; have f6 := (F2 w hSw).2.2; have f7 := hlt; have f8 := neq_val x y w; have f9 := hlt2); go_simp; first | done | with_reducible rfl)); simp only [Act.put, List.setIfInBounds_toArray, List.set_cons_zero, List.set_cons_succ])
      (refine mv_val 4 (v := ?_) rfl (by kernel_rfl) (by kernel_rfl) (by kernel_rfl) (fun _ _ _ h => h) (by rfl) hS ?_ ?_; rotate_left; (focus (intro w hSw; (try dsimp only at hSw); (have f1 := (F1 w hSw).1; have f2 := (F1 w hSw).2.1; have f3 := (F1 w hSw).2.2; have f4 := (F2 w hSw).1; have f5 := (F2 w hSw).2.1; have f6 := (F2 w hSw).2.2; have f7 := hlt; have f8 := neq_val x y w; have f9 := hlt2); go_simp; first | done | with_reducible rfl)); simp only [Act.put, List.setIfInBounds_toArray, List.set_cons_zero, List.set_cons_succ])
      (refine mv_val 5 (v := ?_) rfl (by kernel_rfl) (by kernel_rfl) (by kernel_rfl) (fun _ _ _ h => h) (by rfl) hS ?_ ?_; rotate_left; (focus (intro w hSw; (try dsimp only at hSw); (have f1 := (F1 w hSw).1; have f2 := (F1 w hSw).2.1; have f3 := (F1 w hSw).2.2; have f4 := (F2 w hSw).1; have f5 := (F2 w hSw).2.1; have f6 := (F2 w hSw).2.2; have f7 := hlt; have f8 := neq_val x y w; have f9 := hlt2); go_simp; first | done | with_reducible rfl)); simp only [Act.put, List.setIfInBounds_toArray, List.set_cons_zero, List.set_cons_succ])
      (refine mv_val 6 (v := ?_) rfl (by kernel_rfl) (by kernel_rfl) (by kernel_rfl) (fun _ _ _ h => h) (by rfl) hS ?_ ?_; rotate_left; (focus (intro w hSw; (try dsimp only at hSw); (have f1 := (F1 w hSw).1; have f2 := (F1 w hSw).2.1; have f3 := (F1 w hSw).2.2; have f4 := (F2 w hSw).1; have f5 := (F2 w hSw).2.1; have f6 := (F2 w hSw).2.2; have f7 := hlt; have f8 := neq_val x y w; have f9 := hlt2); go_simp; first | done | with_reducible rfl)); simp only [Act.put, List.setIfInBounds_toArray, List.set_cons_zero, List.set_cons_succ])
      (refine mv_val 7 (v := ?_) rfl (by kernel_rfl) (by kernel_rfl) (by kernel_rfl) (fun _ _ _ h => h) (by rfl) hS ?_ ?_; rotate_left; (focus (intro w hSw; (try dsimp only at hSw); (have f1 := (F1 w hSw).1; have f2 := (F1 w hSw).2.1; have f3 := (F1 w hSw).2.2; have f4 := (F2 w hSw).1; have f5 := (F2 w hSw).2.1; have f6 := (F2 w hSw).2.2; have f7 := hlt; have f8 := neq_val x y w; have f9 := hlt2); go_simp; first | done | with_reducible rfl)); simp only [Act.put, List.setIfInBounds_toArray, List.set_cons_zero, List.set_cons_succ])
      (refine mv_val 8 (v := ?_) rfl (by kernel_rfl) (by kernel_rfl) (by kernel_rfl) (fun _ _ _ h => h) (by rfl) hS ?_ ?_; rotate_left; (focus (intro w hSw; (try dsimp only at hSw); (have f1 := (F1 w hSw).1; have f2 := (F1 w hSw).2.1; have f3 := (F1 w hSw).2.2; have f4 := (F2 w hSw).1; have f5 := (F2 w hSw).2.1; have f6 := (F2 w hSw).2.2; have f7 := hlt; have f8 := neq_val x y w; have f9 := hlt2); go_simp; first | done | with_reducible rfl)); simp only [Act.put, List.setIfInBounds_toArray, List.set_cons_zero, List.set_cons_succ])
      refine wpAnyH_done (by kernel_rfl) ?_ _
      by_cases hxy : x = y
      · have hq : (!decide (x = y)) = false := by simp [hxy]
        have HT2 := Lib.hid (take_more HTK.out HX.out HY.out hxy)
        rw [hq]
        clear hq hxy
        go_wp2_with fail
        go_roundw
        case rel => exact ⟨k + 1, by omega, by omega, by go_num, HT2.out, hS⟩
        case measure => simp [intOf]; omega
      · have hq : (!decide (x = y)) = true := by simp [hxy]
        have HE := Lib.hid (rowsL_ne HTK.out HX.out HY.out hxy)
        rw [hq]
        clear hq hxy
        have K1 := Lib.hid (fun w => Less_any x y w)
        obtain ⟨bl, hbl⟩ : ∃ b, b = lessV x y := ⟨_, rfl⟩
        rw [← hbl] at K1 HE
        clear hbl
        go_wp2_with fail
        refine ah_start 10 (fun w' => Below w.heap.size w w') rfl (by kernel_rfl) hS.drew ?_ ; intro hS
        (refine mv_val 0 (v := ?_) rfl (by kernel_rfl) (by kernel_rfl) (by kernel_rfl) (fun _ _ _ h => h) (by rfl) hS ?_ ?_; rotate_left; (focus (intro w hSw; (try dsimp only at hSw); (have f1 := (F1 w hSw).1; have f2 := (F1 w hSw).2.1; have f3 := (F1 w hSw).2.2; have f4 := (F2 w hSw).1; have f5 := (F2 w hSw).2.1; have f6 := (F2 w hSw).2.2; have f7 := hlt; have f9 := hlt2); go_simp; first | done | with_reducible rfl)); simp only [Act.put, List.setIfInBounds_toArray, List.set_cons_zero, List.set_cons_succ])
        (refine mv_val 1 (v := ?_) rfl (by kernel_rfl) (by kernel_rfl) (by kernel_rfl) (fun _ _ _ h => h) (by rfl) hS ?_ ?_; rotate_left; (focus (intro w hSw; (try dsimp only at hSw); (have f1 := (F1 w hSw).1; have f2 := (F1 w hSw).2.1; have f3 := (F1 w hSw).2.2; have f4 := (F2 w hSw).1; have f5 := (F2 w hSw).2.1; have f6 := (F2 w hSw).2.2; have f7 := hlt; have f9 := hlt2); go_simp; first | done | with_reducible rfl)); simp only [Act.put, List.setIfInBounds_toArray, List.set_cons_zero, List.set_cons_succ])
        (refine mv_val 2 (v := ?_) rfl (by kernel_rfl) (by kernel_rfl) (by kernel_rfl) (fun _ _ _ h => h) (by rfl) hS ?_ ?_; rotate_left; (focus (intro w hSw; (try dsimp only at hSw); (have f1 := (F1 w hSw).1; have f2 := (F1 w hSw).2.1; have f3 := (F1 w hSw).2.2; have f4 := (F2 w hSw).1; have f5 := (F2 w hSw).2.1; have f6 := (F2 w hSw).2.2; have f7 := hlt; have f9 := hlt2); go_simp; first | done | with_reducible rfl)); simp only [Act.put, List.setIfInBounds_toArray, List.set_cons_zero, List.set_cons_succ])
        (refine mv_val 3 (v := ?_) rfl (by kernel_rfl) (by kernel_rfl) (by kernel_rfl) (fun _ _ _ h => h) (by rfl) hS ?_ ?_; rotate_left; (focus (intro w hSw; (try dsimp only at hSw); (have f1 := (F1 w hSw).1; have f2 := (F1 w hSw).2.1; have f3 := (F1 w hSw).2.2; have f4 := (F2 w hSw).1; have f5 := (F2 w hSw).2.1; have f6 := (F2 w hSw).2.2; have f7 := hlt; have f9 := hlt2); go_simp; first | done | with_reducible rfl)); simp only [Act.put, List.setIfInBounds_toArray, List.set_cons_zero, List.set_cons_succ])
        (refine mv_val 4 (v := ?_) rfl (by kernel_rfl) (by kernel_rfl) (by kernel_rfl) (fun _ _ _ h => h) (by rfl) hS ?_ ?_; rotate_left; (focus (intro w hSw; (try dsimp only at hSw); (have f1 := (F1 w hSw).1; have f2 := (F1 w hSw).2.1; have f3 := (F1 w hSw).2.2; have f4 := (F2 w hSw).1; have f5 := (F2 w hSw).2.1; have f6 := (F2 w hSw).2.2; have f7 := hlt; have f9 := hlt2); go_simp; first | done | with_reducible rfl)); simp only [Act.put, List.setIfInBounds_toArray, List.set_cons_zero, List.set_cons_succ])
        (refine mv_val 5 (v := ?_) rfl (by kernel_rfl) (by kernel_rfl) (by kernel_rfl) (fun _ _ _ h => h) (by rfl) hS ?_ ?_; rotate_left; (focus (intro w hSw; (try dsimp only at hSw); (have f1 := (F1 w hSw).1; have f2 := (F1 w hSw).2.1; have f3 := (F1 w hSw).2.2; have f4 := (F2 w hSw).1; have f5 := (F2 w hSw).2.1; have f6 := (F2 w hSw).2.2; have f7 := hlt; have f9 := hlt2); go_simp; first | done | with_reducible rfl)); simp only [Act.put, List.setIfInBounds_toArray, List.set_cons_zero, List.set_cons_succ])
        (refine mv_val 6 (v := ?_) rfl (by kernel_rfl) (by kernel_rfl) (by kernel_rfl) (fun _ _ _ h => h) (by rfl) hS ?_ ?_; rotate_left; (focus (intro w hSw; (try dsimp only at hSw); (have f1 := (F1 w hSw).1; have f2 := (F1 w hSw).2.1; have f3 := (F1 w hSw).2.2; have f4 := (F2 w hSw).1; have f5 := (F2 w hSw).2.1; have f6 := (F2 w hSw).2.2; have f7 := hlt; have f9 := hlt2); go_simp; first | done | with_reducible rfl)); simp only [Act.put, List.setIfInBounds_toArray, List.set_cons_zero, List.set_cons_succ])
        (refine mv_val 7 (v := ?_) rfl (by kernel_rfl) (by kernel_rfl) (by kernel_rfl) (fun _ _ _ h => h) (by rfl) hS ?_ ?_; rotate_left; (focus (intro w hSw; (try dsimp only at hSw); (have f1 := (F1 w hSw).1; have f2 := (F1 w hSw).2.1; have f3 := (F1 w hSw).2.2; have f4 := (F2 w hSw).1; have f5 := (F2 w hSw).2.1; have f6 := (F2 w hSw).2.2; have f7 := hlt; have f9 := hlt2); go_simp; first | done | with_reducible rfl)); simp only [Act.put, List.setIfInBounds_toArray, List.set_cons_zero, List.set_cons_succ])
        (refine mv_call 8 (f := ?_) (args := ?_) rfl (by kernel_rfl) (by rfl) ?_ ?_; rotate_left 2; (focus (go_simp; first | done | with_reducible rfl | (refine ⟨?_, ?_⟩ <;> with_reducible rfl))))
        refine (K1.out _).mono ?_; rintro e w5 ⟨rfl, bl5⟩
        have hS6 : Below w.heap.size w w5 := hS.trans (bl5.mono hS.size)
        refine ⟨_, rfl, hS6, ?_⟩
        replace hS := hS6
        simp only [Act.put, List.setIfInBounds_toArray, List.set_cons_zero, List.set_cons_succ]
        (refine mv_val 9 (v := ?_) rfl (by kernel_rfl) (by kernel_rfl) (by kernel_rfl) (fun _ _ _ h => h) (by rfl) hS ?_ ?_; rotate_left; (focus (intro w hSw; (try dsimp only at hSw); (have f1 := (F1 w hSw).1; have f2 := (F1 w hSw).2.1; have f3 := (F1 w hSw).2.2; have f4 := (F2 w hSw).1; have f5 := (F2 w hSw).2.1; have f6 := (F2 w hSw).2.2; have f7 := hlt; have f9 := hlt2); go_simp; first | done | with_reducible rfl)); simp only [Act.put, List.setIfInBounds_toArray, List.set_cons_zero, List.set_cons_succ])
        refine wpAnyH_done (by kernel_rfl) ?_ _
        go_wp2_with fail
        go_ret
        exact ⟨by rw [HE.out]; rfl, hS⟩
    · have he : rowsL l m = decide ((n : Int) < (p : Int)) := by
        have h1 := HN.out
        have h2 := HP.out
        have h3 : l.drop k = [] ∨ m.drop k = [] := by
          rcases (by omega : k = n ∨ k = p) with h | h
          · exact .inl (List.drop_of_length_le (by omega))
          · exact .inr (List.drop_of_length_le (by omega))
        rw [rowsL_drop k l m HTK.out (by omega) (by omega), rowsL_end _ _ h3]
        rw [List.length_drop, List.length_drop]
        apply decide_eq_decide.2
        omega
      have HE := Lib.hid he
      clear he
      by_cases hkn : k < n
      · have hkI : (k : Int) < (n : Int) := by omega
        have hkJ : ¬ ((k : Int) < (p : Int)) := by omega
        go_wp2_with fail
        all_goals go_ret
        all_goals exact ⟨by rw [HE.out]; first | rfl | simp, hbel⟩
      · have hkI : ¬ ((k : Int) < (n : Int)) := by omega
        go_wp2_with fail
        all_goals go_ret
        all_goals exact ⟨by rw [HE.out]; first | rfl | simp, hbel⟩
end Go.Proofs.Ytdbhbfpfcdklmaa

/- The walks of the reference for package span (layer 9), those that layer 10 reaches. Holds for all arguments, but for the bounds that a theorem names. Cut out of layer 9's text. -/
import Derived.Test.YtiohdacbnigpkaaSpanQ
namespace Go.Proofs.Ytiohdacbnigpkaa
open Go.RowKit
set_option linter.unusedVariables false
set_option linter.unusedSimpArgs false

theorem rWidth_any (n : Int) (w : World) :
    Calls Try.prog 67 #[.int .i64 n] w fun e w' => e = .returned (.bool (decide (1 ≤ n ∧ n ≤ 1099511627776))) ∧ w = w' := by
  by_cases h : 1 ≤ n
  · go_enter Try.func67, Try.ntmps67
    go_wp2
    go_ret
    exact ⟨by first | (simp; done) | (simp; omega), rfl⟩
  · have hd : decide (1 ≤ n) = false := by simpa using h
    go_enter Try.func67, Try.ntmps67
    go_wp2
    go_ret
    exact ⟨by first | (simp; done) | (simp; omega), rfl⟩

theorem rBounded_any (n : Int) (w : World) :
    Calls Try.prog 68 #[.int .i64 n] w fun e w' => e = .returned (.bool (decide (bnd n))) ∧ w = w' := by
  have e : decide (bnd n) = decide (-4611687117939015680 ≤ n ∧ n ≤ 4611687117939015679) := rfl
  rw [e]
  clear e
  by_cases h : -4611687117939015680 ≤ n
  · go_enter Try.func68, Try.ntmps68
    go_wp2
    go_ret
    exact ⟨by first | (simp; done) | (simp; omega), rfl⟩
  · have hd : decide (-4611687117939015680 ≤ n) = false := by simpa using h
    go_enter Try.func68, Try.ntmps68
    go_wp2
    go_ret
    exact ⟨by first | (simp; done) | (simp; omega), rfl⟩

theorem rFloor_any (t n : Int) (h1 : 1 ≤ n) (h2 : n ≤ 1099511627776) (h3 : -4611687117939015680 ≤ t) (h4 : t ≤ 4611687117939015680) (w : World) :
    Calls Try.prog 70 #[.int .i64 t, .int .i64 n] w fun e w' => e = .returned (.int .i64 (fl t n)) ∧ w = w' := by
  have b := tmod_bd t n h1
  have b2 := mod_bd t n h1
  have e : t.tmod n = t % n ∨ t.tmod n + n = t % n := by
    have := tmod_twice t n h1
    rcases Int.lt_or_le (t.tmod n) 0 with h | h
    · right; rw [Int.tmod_eq_of_lt (by omega) (by omega)] at this; exact this
    · left
      rw [Int.tmod_eq_emod_of_nonneg (by omega), Int.add_emod_right, Int.emod_eq_of_lt h (by omega)] at this; exact this
  have ef : fl t n = t - t % n := rfl
  rw [ef]
  obtain ⟨m, hm⟩ : ∃ m, m = t.tmod n := ⟨_, rfl⟩
  obtain ⟨r, hr⟩ : ∃ r, r = t % n := ⟨_, rfl⟩
  have hn0 : ¬ n = 0 := by omega
  rw [← hm] at b e
  rw [← hr] at b2 e ⊢
  obtain ⟨b1a, b1b⟩ := b
  obtain ⟨b2a, b2b⟩ := b2
  have hm' : t.tmod n = m := hm.symm
  clear hm hr ef
  rcases Int.lt_or_le m 0 with h | h
  · have e3 : m + n = r := by omega
    go_enter Try.func70, Try.ntmps70
    go_wp2
    go_ret
    exact ⟨by first | rfl | (simp; done) | (simp; omega), rfl⟩
  · have e3 : m = r := by omega
    subst e3
    go_enter Try.func70, Try.ntmps70
    go_wp2
    go_ret
    exact ⟨by first | rfl | (simp; done) | (simp; omega), rfl⟩

theorem rCeil_any (t n : Int) (h1 : 1 ≤ n) (h2 : n ≤ 1099511627776) (h3 : -4611687117939015680 ≤ t) (h4 : t ≤ 4611687117939015679) (w : World) :
    Calls Try.prog 71 #[.int .i64 t, .int .i64 n] w fun e w' => e = .returned (.int .i64 (cl t n)) ∧ w = w' := by
  have F := fun w => rFloor_any t n h1 h2 h3 (by omega) w
  have b := fl_bd t n h1
  rw [cl_eq t n h1]
  obtain ⟨a, ha⟩ : ∃ a, a = fl t n := ⟨_, rfl⟩
  rw [← ha] at F b ⊢
  have G := Lib.hid F
  clear F ha
  by_cases h : a < t
  · have hne : ¬ t = a := by omega
    rw [if_neg hne]
    go_enter Try.func71, Try.ntmps71
    go_wp2_with fail
    refine (G.out _).mono ?_; rintro e w1 ⟨rfl, rfl⟩
    go_wp2_with fail
    go_ret
    exact ⟨rfl, rfl⟩
  · have hne : a = t := by omega
    subst hne
    rw [if_pos rfl]
    go_enter Try.func71, Try.ntmps71
    go_wp2_with fail
    refine (G.out _).mono ?_; rintro e w1 ⟨rfl, rfl⟩
    go_wp2_with fail
    go_ret
    exact ⟨rfl, rfl⟩

theorem rGood_any (f t : Int) (w : World) :
    Calls Try.prog 69 #[.int .i64 f, .int .i64 t] w fun e w' => e = .returned (Sp (gF f t) (gT f t)) ∧ Below w.heap.size w w' := by
  by_cases h : t ≤ f
  · have e1 : gF f t = 0 := if_pos h
    have e2 : gT f t = 0 := if_pos h
    rw [e1, e2]
    clear e1 e2
    go_enter Try.func69, Try.ntmps69
    go_wp2
    refine bodyPost_ret (v := Sp 0 0) (by simp [results, Try.results69, go_sem]) rfl ⟨rfl, by go_grown⟩
  · have e1 : gF f t = f := if_neg h
    have e2 : gT f t = t := if_neg h
    rw [e1, e2]
    clear e1 e2
    go_enter Try.func69, Try.ntmps69
    go_wp2
    refine bodyPost_ret (v := Sp f t) (by simp [results, Try.results69, go_sem]) rfl ⟨rfl, by go_grown⟩

theorem rOut_any (f t n : Int) (h1 : 1 ≤ n) (h2 : n ≤ 1099511627776) (hf : bnd f) (ht : bnd t) (w : World) :
    Calls Try.prog 51 #[Sp f t, .int .i64 n] w fun e w' => e = .returned (Sp (OutF f t n) (OutT f t n)) ∧ Below w.heap.size w w' := by
  have z0 := wrg_ok2 h1 h2 hf ht
  unfold bnd at hf ht
  by_cases h : t ≤ f
  · have e1 : OutF f t n = 0 := if_neg (by omega)
    have e2 : OutT f t n = 0 := if_neg (by omega)
    rw [e1, e2]
    clear e1 e2 z0
    go_enter Try.func51, Try.ntmps51
    go_wp2
    refine bodyPost_ret (v := Sp 0 0) (by simp [results, Try.results51, go_sem]) rfl ⟨rfl, by go_grown⟩
  · have e1 : OutF f t n = gF (fl f n) (cl t n) := if_pos ⟨z0, by omega⟩
    have e2 : OutT f t n = gT (fl f n) (cl t n) := if_pos ⟨z0, by omega⟩
    rw [e1, e2]
    clear e1 e2 z0
    have G1 := Lib.hid (fun w => rFloor_any f n h1 h2 (by omega) (by omega) w)
    have G2 := Lib.hid (fun w => rCeil_any t n h1 h2 (by omega) (by omega) w)
    have G3 := Lib.hid (fun w => rGood_any (fl f n) (cl t n) w)
    obtain ⟨x, hx⟩ : ∃ x, x = fl f n := ⟨_, rfl⟩
    obtain ⟨y, hy⟩ : ∃ y, y = cl t n := ⟨_, rfl⟩
    rw [← hx] at G1 G3 ⊢
    rw [← hy] at G2 G3 ⊢
    clear hx hy
    obtain ⟨gx, hgx⟩ : ∃ z, z = gF x y := ⟨_, rfl⟩
    obtain ⟨gy, hgy⟩ : ∃ z, z = gT x y := ⟨_, rfl⟩
    rw [← hgx, ← hgy] at G3 ⊢
    clear hgx hgy
    go_enter Try.func51, Try.ntmps51
    go_wp2_with fail
    go_region_held3 (fun w' => w'.cell? ⟨w.heap.size, 0, none⟩ = some (.int .i64 f) ∧ w'.cell? ⟨w.heap.size, 1, none⟩ = some (.int .i64 t))
      (refine ⟨?_, ?_⟩ <;> first | (simp [go_sem]; done) | (simp [go_sem, *]; done))
      (first
        | ((with_reducible refine (G1.out _).mono ?_); rintro e w1 ⟨rfl, rfl⟩)
        | ((with_reducible refine (G2.out _).mono ?_); rintro e w1 ⟨rfl, rfl⟩)
        | ((with_reducible refine (G3.out _).mono ?_); rintro e w1 ⟨rfl, hb⟩; obtain ⟨hc, hf⟩ := bcell hb; have hsz := hb.size; simp at hsz; have y0 : w.heap.size < w1.heap.size := (by omega); have y1 : w.heap.size + 1 < w1.heap.size := (by omega); have hb' : Below w.heap.size w w1 := ((((Below.refl w.heap.size w).alloc (Nat.le_refl _) _).alloc (by simp) _).drew).trans (hb.mono (B' := w.heap.size) (by first | (simp; done) | (simp; omega)))))
    go_wp2
    refine bodyPost_ret (v := Sp gx gy) (by simp [results, Try.results51, go_sem, hc]) rfl ⟨rfl, by go_grown⟩

theorem rIn_any (f t n : Int) (h1 : 1 ≤ n) (h2 : n ≤ 1099511627776) (hf : bnd f) (ht : bnd t) (w : World) :
    Calls Try.prog 52 #[Sp f t, .int .i64 n] w fun e w' => e = .returned (Sp (InF f t n) (InT f t n)) ∧ Below w.heap.size w w' := by
  have z0 := wrg_ok2 h1 h2 hf ht
  unfold bnd at hf ht
  by_cases h : t ≤ f
  · have e1 : InF f t n = 0 := if_neg (by omega)
    have e2 : InT f t n = 0 := if_neg (by omega)
    rw [e1, e2]
    clear e1 e2 z0
    go_enter Try.func52, Try.ntmps52
    go_wp2
    refine bodyPost_ret (v := Sp 0 0) (by simp [results, Try.results52, go_sem]) rfl ⟨rfl, by go_grown⟩
  · have e1 : InF f t n = gF (cl f n) (fl t n) := if_pos ⟨z0, by omega⟩
    have e2 : InT f t n = gT (cl f n) (fl t n) := if_pos ⟨z0, by omega⟩
    rw [e1, e2]
    clear e1 e2 z0
    have G1 := Lib.hid (fun w => rCeil_any f n h1 h2 (by omega) (by omega) w)
    have G2 := Lib.hid (fun w => rFloor_any t n h1 h2 (by omega) (by omega) w)
    have G3 := Lib.hid (fun w => rGood_any (cl f n) (fl t n) w)
    obtain ⟨x, hx⟩ : ∃ x, x = cl f n := ⟨_, rfl⟩
    obtain ⟨y, hy⟩ : ∃ y, y = fl t n := ⟨_, rfl⟩
    rw [← hx] at G1 G3 ⊢
    rw [← hy] at G2 G3 ⊢
    clear hx hy
    obtain ⟨gx, hgx⟩ : ∃ z, z = gF x y := ⟨_, rfl⟩
    obtain ⟨gy, hgy⟩ : ∃ z, z = gT x y := ⟨_, rfl⟩
    rw [← hgx, ← hgy] at G3 ⊢
    clear hgx hgy
    go_enter Try.func52, Try.ntmps52
    go_wp2_with fail
    go_region_held3 (fun w' => w'.cell? ⟨w.heap.size, 0, none⟩ = some (.int .i64 f) ∧ w'.cell? ⟨w.heap.size, 1, none⟩ = some (.int .i64 t))
      (refine ⟨?_, ?_⟩ <;> first | (simp [go_sem]; done) | (simp [go_sem, *]; done))
      (first
        | ((with_reducible refine (G1.out _).mono ?_); rintro e w1 ⟨rfl, rfl⟩)
        | ((with_reducible refine (G2.out _).mono ?_); rintro e w1 ⟨rfl, rfl⟩)
        | ((with_reducible refine (G3.out _).mono ?_); rintro e w1 ⟨rfl, hb⟩; obtain ⟨hc, hf⟩ := bcell hb; have hsz := hb.size; simp at hsz; have y0 : w.heap.size < w1.heap.size := (by omega); have y1 : w.heap.size + 1 < w1.heap.size := (by omega); have hb' : Below w.heap.size w w1 := ((((Below.refl w.heap.size w).alloc (Nat.le_refl _) _).alloc (by simp) _).drew).trans (hb.mono (B' := w.heap.size) (by first | (simp; done) | (simp; omega)))))
    go_wp2
    refine bodyPost_ret (v := Sp gx gy) (by simp [results, Try.results52, go_sem, hc]) rfl ⟨rfl, by go_grown⟩

theorem rOutE_any (f t n : Int) (h : t ≤ f) (w : World) :
    Calls Try.prog 51 #[Sp f t, .int .i64 n] w fun e w' => e = .returned (Sp 0 0) ∧ Below w.heap.size w w' := by
  go_enter Try.func51, Try.ntmps51
  go_wp2
  refine bodyPost_ret (v := Sp 0 0) (by simp [results, Try.results51, go_sem]) rfl ⟨rfl, by go_grown⟩
theorem rInE_any (f t n : Int) (h : t ≤ f) (w : World) :
    Calls Try.prog 52 #[Sp f t, .int .i64 n] w fun e w' => e = .returned (Sp 0 0) ∧ Below w.heap.size w w' := by
  go_enter Try.func52, Try.ntmps52
  go_wp2
  refine bodyPost_ret (v := Sp 0 0) (by simp [results, Try.results52, go_sem]) rfl ⟨rfl, by go_grown⟩
end Go.Proofs.Ytiohdacbnigpkaa

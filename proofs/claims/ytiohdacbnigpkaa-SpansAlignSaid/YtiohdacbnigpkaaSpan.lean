/- The walks of package span and of the reference for it (layer 9): what each function returns, as plain numbers. Holds for all arguments, but for the bounds that a theorem names. -/
import Derived.Test.YtiohdacbnigpkaaBas
namespace Go.Proofs.Ytiohdacbnigpkaa
open Go.RowKit

abbrev Sp (a b : Int) : Value := .agg #[.int .i64 a, .int .i64 b]

theorem empty_any (f t : Int) (w : World) :
    Calls Try.prog 43 #[Sp f t] w fun e w' => e = .returned (.bool (decide (t ≤ f))) ∧ Below w.heap.size w w' := by
  go_enter Try.func43, Try.ntmps43
  go_wp2
  go_ret
  exact ⟨rfl, (Below.refl _ _).alloc (Nat.le_refl _) _⟩

theorem has_any (f t x : Int) (w : World) :
    Calls Try.prog 32 #[Sp f t, .int .i64 x] w fun e w' => e = .returned (.bool (decide (f ≤ x ∧ x < t))) ∧ Below w.heap.size w w' := by
  by_cases h : f ≤ x
  · go_enter Try.func32, Try.ntmps32
    go_wp2
    go_ret
    exact ⟨by first | (simp; done) | (simp; omega), (Below.refl _ _).alloc (Nat.le_refl _) _⟩
  · have hd : decide (f ≤ x) = false := by simpa using h
    go_enter Try.func32, Try.ntmps32
    go_wp2
    go_ret
    exact ⟨by first | (simp; done) | (simp; omega), (Below.refl _ _).alloc (Nat.le_refl _) _⟩

def andF (a b c d : Int) : Int := if min b d ≤ max a c then 0 else max a c
def andT (a b c d : Int) : Int := if min b d ≤ max a c then 0 else min b d

theorem and_any (a b c d : Int) (w : World) :
    Calls Try.prog 62 #[Sp a b, Sp c d] w fun e w' => e = .returned (Sp (andF a b c d) (andT a b c d)) ∧ Below w.heap.size w w' := by
  go_enter Try.func62, Try.ntmps62
  go_wp2_with (go_at_call 43; refine (empty_any _ _ _).mono ?_; rintro e w1 ⟨rfl, hb⟩; obtain ⟨hc, hf⟩ := bcell hb; have hsz := hb.size; have hb' : Below w.heap.size w w1 := Below.trans (by go_grown) (hb.mono (B' := w.heap.size) (by simp; omega)))
  all_goals
    refine bodyPost_ret (v := Sp (andF a b c d) (andT a b c d)) ?_ rfl ⟨rfl, ?_⟩
    · simp [results, Try.results62, go_sem, hc, andF, andT]; omega
    · go_grown

theorem width_any (n : Int) (w : World) :
    Calls Try.prog 9 #[.int .i64 n] w fun e w' => e = .returned (.bool (decide (1 ≤ n ∧ n ≤ 1099511627776))) ∧ w = w' := by
  by_cases h : 1 ≤ n
  · go_enter Try.func9, Try.ntmps9
    go_wp2
    go_ret
    exact ⟨by first | (simp; done) | (simp; omega), rfl⟩
  · have hd : decide (1 ≤ n) = false := by simpa using h
    go_enter Try.func9, Try.ntmps9
    go_wp2
    go_ret
    exact ⟨by first | (simp; done) | (simp; omega), rfl⟩

theorem time_any (n : Int) (w : World) :
    Calls Try.prog 10 #[.int .i64 n] w fun e w' => e = .returned (.bool (decide (-4611686018427387904 ≤ n ∧ n ≤ 4611686018427387903))) ∧ w = w' := by
  by_cases h : -4611686018427387904 ≤ n
  · go_enter Try.func10, Try.ntmps10
    go_wp2
    go_ret
    exact ⟨by first | (simp; done) | (simp; omega), rfl⟩
  · have hd : decide (-4611686018427387904 ≤ n) = false := by simpa using h
    go_enter Try.func10, Try.ntmps10
    go_wp2
    go_ret
    exact ⟨by first | (simp; done) | (simp; omega), rfl⟩

theorem tmod_bd (t n : Int) (h : 1 ≤ n) : -n < t.tmod n ∧ t.tmod n < n := by
  rcases Int.le_total 0 t with h0 | h0
  · rw [Int.tmod_eq_emod_of_nonneg h0]
    have := Int.emod_nonneg t (show n ≠ 0 by omega)
    have := Int.emod_lt_of_pos t (show 0 < n by omega)
    omega
  · have e : t = -(-t) := by omega
    rw [e, Int.neg_tmod, Int.tmod_eq_emod_of_nonneg (show 0 ≤ -t by omega)]
    have := Int.emod_nonneg (-t) (show n ≠ 0 by omega)
    have := Int.emod_lt_of_pos (-t) (show 0 < n by omega)
    omega
theorem tmod_twice (t n : Int) (h : 1 ≤ n) : (t.tmod n + n).tmod n = t % n := by
  have hb := tmod_bd t n h
  rw [Int.tmod_eq_emod_of_nonneg (by omega), Int.tmod_def, Int.sub_eq_add_neg, Int.add_assoc, Int.neg_mul_eq_mul_neg, Int.add_comm (n * _) n]
  rw [show n + n * -(t.tdiv n) = n * (1 + -(t.tdiv n)) by rw [Int.mul_add, Int.mul_one]]
  exact Int.add_mul_emod_self_left ..
theorem mod_bd (t n : Int) (h : 1 ≤ n) : 0 ≤ t % n ∧ t % n < n := ⟨Int.emod_nonneg t (by omega), Int.emod_lt_of_pos t (by omega)⟩

/-- the greatest multiple of n that is not above t -/
def fl (t n : Int) : Int := t - t % n
theorem fl_bd (t n : Int) (h : 1 ≤ n) : t - n < fl t n ∧ fl t n ≤ t := by
  have := mod_bd t n h; unfold fl; omega
theorem fl_wrap (t n : Int) (h1 : 1 ≤ n) (h2 : n ≤ 1099511627776) (h3 : -4611687117939015680 ≤ t) (h4 : t ≤ 4611687117939015680) : wrap64 (t - (wrap64 (t.tmod n + n)).tmod n) = fl t n := by
  have a := tmod_bd t n h1
  have b := mod_bd t n h1
  rw [IntWalk.wrap64_in (t.tmod n + n) ⟨by omega, by omega⟩, tmod_twice t n h1, IntWalk.wrap64_in _ ⟨by omega, by omega⟩]
  rfl
theorem floor_any (t n : Int) (h1 : 1 ≤ n) (h2 : n ≤ 1099511627776) (h3 : -4611687117939015680 ≤ t) (h4 : t ≤ 4611687117939015680) (w : World) :
    Calls Try.prog 56 #[.int .i64 t, .int .i64 n] w fun e w' => e = .returned (.int .i64 (fl t n)) ∧ w = w' := by
  go_enter Try.func56, Try.ntmps56
  go_wp2
  go_ret
  exact ⟨congrArg (fun x => Ending.returned (.int .i64 x)) (fl_wrap t n h1 h2 h3 h4), rfl⟩

/-- may a number be handed to a floor? -/
def bnd (t : Int) : Prop := -4611687117939015680 ≤ t ∧ t ≤ 4611687117939015679
instance (t : Int) : Decidable (bnd t) := by unfold bnd; exact inferInstance
/-- what is wrong with a width, and numbers -/
def wrg (n : Int) (l : List Int) : Int := if ¬ (1 ≤ n ∧ n ≤ 1099511627776) then 1 else if ∀ t ∈ l, bnd t then 0 else 7

theorem wrong_any (n : Int) (l : List Int) (A : Option Addr) (c : Nat) (w : World) (B : Nat) (h : Rd w B A (l.map (.int .i64))) (hl : l.length ≤ 4) :
    Calls Try.prog 55 #[.int .i64 n, .slice A l.length c] w fun e w' => e = .returned (.int .i64 (wrg n l)) ∧ w = w' := by
  by_cases hn : 1 ≤ n ∧ n ≤ 1099511627776
  · have hd : decide (1 ≤ n ∧ n ≤ 1099511627776) = true := by simpa using hn
    have hw : Hid (wrg n l = if ∀ t ∈ l, bnd t then 0 else 7) := by unfold wrg; rw [if_neg (by simp; exact hn)]; rfl
    go_enter Try.func55, Try.ntmps55
    go_wp2_with (go_at_call 9; refine (width_any _ _).mono ?_; rintro e w1 ⟨rfl, rfl⟩)
    go_loop [12] (fun i => ∃ k : Nat, k ≤ l.length ∧ i = .int .i64 k ∧ (∀ t ∈ l.take k, bnd t)) (fun i => l.length - (intOf i).toNat)
    case atStart => exact ⟨0, by omega, rfl, by simp⟩
    case round =>
      obtain ⟨k, hk, rfl, hall⟩ := hrel
      by_cases hlt : k < l.length
      · obtain ⟨b, o, rfl, hb, hcell⟩ := h.at (k := k) (by simpa using hlt)
        have hc : w.cell? ⟨b, o + k, none⟩ = some (.int .i64 l[k]) := hcell k _ (by simp [hlt])
        clear hcell
        obtain ⟨x, hx⟩ : ∃ x, x = l[k] := ⟨_, rfl⟩
        rw [← hx] at hc
        have hX : Hid (x = l[k]) := hx
        clear hx
        by_cases h1 : x < -4611687117939015680
        · go_wp2
          go_ret
          refine ⟨?_, rfl⟩
          rw [hw.out, if_neg]
          · rfl
          · intro hh
            have := hh x (by rw [hX.out]; exact List.getElem_mem hlt)
            unfold bnd at this; omega
        · have h1' : decide (x < -4611687117939015680) = false := by simpa using h1
          by_cases h2 : 4611687117939015679 < x
          · go_wp2
            go_ret
            refine ⟨?_, rfl⟩
            rw [hw.out, if_neg]
            · rfl
            · intro hh
              have := hh x (by rw [hX.out]; exact List.getElem_mem hlt)
              unfold bnd at this; omega
          · go_wp2
            go_round
            case rel =>
              refine ⟨k + 1, by omega, by go_num, fun t ht => ?_⟩
              rw [List.take_succ_eq_append_getElem hlt, List.mem_append] at ht
              rcases ht with ht | ht
              · exact hall t ht
              · simp at ht; subst ht; rw [← hX.out]; unfold bnd; omega
            case measure => simp [intOf]; omega
      · go_wp2
        go_ret
        refine ⟨?_, rfl⟩
        rw [hw.out, if_pos]
        · rfl
        · rw [List.take_of_length_le (by omega)] at hall; exact hall
  · have hd : decide (1 ≤ n ∧ n ≤ 1099511627776) = false := by simpa using hn
    have hw : Hid (wrg n l = 1) := by unfold wrg; rw [if_pos (by simp at hn ⊢; exact hn)]; rfl
    go_enter Try.func55, Try.ntmps55
    go_wp2_with (go_at_call 9; refine (width_any _ _).mono ?_; rintro e w1 ⟨rfl, rfl⟩)
    go_ret
    exact ⟨by rw [hw.out]; rfl, rfl⟩

theorem wrg_zero {n : Int} {l : List Int} (h : wrg n l = 0) : 1 ≤ n ∧ n ≤ 1099511627776 ∧ ∀ t ∈ l, bnd t := by
  unfold wrg at h; split at h
  · omega
  · split at h
    · refine ⟨by omega, by omega, by assumption⟩
    · omega
/-- what Floor and Ceil answer -/
def flr (t n : Int) : Int := if wrg n [t] = 0 then fl t n else 0
def cl (t n : Int) : Int := -(fl (-t) n)
def cei (t n : Int) : Int := if wrg n [t] = 0 then cl t n else 0
theorem cl_bd (t n : Int) (h : 1 ≤ n) : t ≤ cl t n ∧ cl t n < t + n := by
  have := fl_bd (-t) n h; unfold cl; omega

theorem Floor_any (t n : Int) (w : World) :
    Calls Try.prog 33 #[.int .i64 t, .int .i64 n] w fun e w' => e = .returned (.tuple #[.int .i64 (flr t n), .int .i64 (wrg n [t])]) ∧ Below w.heap.size w w' := by
  by_cases h : wrg n [t] = 0
  · obtain ⟨h1, h2, h3⟩ := wrg_zero h
    have h4 : bnd t := h3 t (by simp)
    unfold bnd at h4
    have hf : flr t n = fl t n := if_pos h
    rw [h, hf]
    have H := Lib.hid h
    clear h hf h3
    go_enter Try.func33, Try.ntmps33
    go_wp2_with (first
      | (go_at_call 55; refine (wrong_any n [t] _ _ _ _ (by exact rd_one _ _ _ _ _ (by simp) (Nat.lt_add_one _)) (by simp)).mono ?_; rw [H.out]; rintro e w1 ⟨rfl, rfl⟩)
      | (go_at_call 56; refine (floor_any t n h1 h2 (by omega) (by omega) _).mono ?_; rintro e w1 ⟨rfl, rfl⟩))
    go_ret2
    exact ⟨rfl, by go_grown⟩
  · have hf : flr t n = 0 := if_neg h
    rw [hf]
    have hne : (wrg n [t] != 0) = true := by simpa using h
    clear hf h
    go_enter Try.func33, Try.ntmps33
    go_wp2_with (go_at_call 55; refine (wrong_any n [t] _ _ _ _ (by exact rd_one _ _ _ _ _ (by simp) (Nat.lt_add_one _)) (by simp)).mono ?_; rintro e w1 ⟨rfl, rfl⟩)
    go_ret2
    exact ⟨rfl, by go_grown⟩

theorem Ceil_any (t n : Int) (w : World) :
    Calls Try.prog 34 #[.int .i64 t, .int .i64 n] w fun e w' => e = .returned (.tuple #[.int .i64 (cei t n), .int .i64 (wrg n [t])]) ∧ Below w.heap.size w w' := by
  by_cases h : wrg n [t] = 0
  · obtain ⟨h1, h2, h3⟩ := wrg_zero h
    have h4 : bnd t := h3 t (by simp)
    unfold bnd at h4
    have hf : cei t n = -(fl (-t) n) := if_pos h
    rw [h, hf]
    have H := Lib.hid h
    clear h hf h3
    have hb := fl_bd (-t) n h1
    go_enter Try.func34, Try.ntmps34
    go_wp2_with (first
      | (go_at_call 55; refine (wrong_any n [t] _ _ _ _ (by exact rd_one _ _ _ _ _ (by simp) (Nat.lt_add_one _)) (by simp)).mono ?_; rw [H.out]; rintro e w1 ⟨rfl, rfl⟩)
      | (go_at_call 56; refine (floor_any (-t) n h1 h2 (by omega) (by omega) _).mono ?_; rintro e w1 ⟨rfl, rfl⟩))
    go_ret2
    exact ⟨rfl, by go_grown⟩
  · have hf : cei t n = 0 := if_neg h
    rw [hf]
    have hne : (wrg n [t] != 0) = true := by simpa using h
    clear hf h
    go_enter Try.func34, Try.ntmps34
    go_wp2_with (go_at_call 55; refine (wrong_any n [t] _ _ _ _ (by exact rd_one _ _ _ _ _ (by simp) (Nat.lt_add_one _)) (by simp)).mono ?_; rintro e w1 ⟨rfl, rfl⟩)
    go_ret2
    exact ⟨rfl, by go_grown⟩

def bkF (t n : Int) : Int := if wrg n [t] = 0 then fl t n else 0
def bkT (t n : Int) : Int := if wrg n [t] = 0 then fl t n + n else 0
theorem Bucket_any (t n : Int) (w : World) :
    Calls Try.prog 15 #[.int .i64 t, .int .i64 n] w fun e w' => e = .returned (.tuple #[Sp (bkF t n) (bkT t n), .int .i64 (wrg n [t])]) ∧ Below w.heap.size w w' := by
  by_cases h : wrg n [t] = 0
  · obtain ⟨h1, h2, h3⟩ := wrg_zero h
    have h4 : bnd t := h3 t (by simp)
    unfold bnd at h4
    have hf : flr t n = fl t n := if_pos h
    have hf1 : bkF t n = fl t n := if_pos h
    have hf2 : bkT t n = fl t n + n := if_pos h
    rw [hf1, hf2, h]
    have H := Lib.hid h
    have H2 := Lib.hid hf
    have hb := fl_bd t n h1
    clear h hf h3 hf1 hf2
    go_enter Try.func15, Try.ntmps15
    go_wp2_with (go_at_call 33; refine (Floor_any t n _).mono ?_; rw [H.out, H2.out]; rintro e w1 ⟨rfl, hb⟩; obtain ⟨hc, hf⟩ := bcell hb; have hsz := hb.size; have hb' : Below w.heap.size w w1 := Below.trans (by go_grown) (hb.mono (B' := w.heap.size) (by first | omega | (simp; done) | (simp; omega))))
    refine bodyPost_ret (v := .tuple #[Sp (fl t n) (fl t n + n), .int .i64 0]) (by simp [results, Try.results15, go_sem, hc]) rfl ⟨rfl, by go_grown⟩
  · have hf : flr t n = 0 := if_neg h
    have hf1 : bkF t n = 0 := if_neg h
    have hf2 : bkT t n = 0 := if_neg h
    rw [hf1, hf2]
    have hne : (wrg n [t] != 0) = true := by simpa using h
    clear hf h hf1 hf2
    go_enter Try.func15, Try.ntmps15
    go_wp2_with (go_at_call 33; refine (Floor_any t n _).mono ?_; rintro e w1 ⟨rfl, hb⟩; obtain ⟨hc, hf⟩ := bcell hb; have hsz := hb.size; have hb' : Below w.heap.size w w1 := Below.trans (by go_grown) (hb.mono (B' := w.heap.size) (by first | omega | (simp; done) | (simp; omega))))
    refine bodyPost_ret (v := .tuple #[Sp 0 0, .int .i64 (wrg n [t])]) (by simp [results, Try.results15, go_sem, hc]) rfl ⟨rfl, by go_grown⟩
end Go.Proofs.Ytiohdacbnigpkaa

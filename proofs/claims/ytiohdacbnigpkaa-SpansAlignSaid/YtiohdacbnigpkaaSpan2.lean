/- The walks of span.Out and span.In (layer 9). No condition. -/
import Derived.Test.YtiohdacbnigpkaaSpan
namespace Go.Proofs.Ytiohdacbnigpkaa
open Go.RowKit

def gF (a b : Int) : Int := if b ≤ a then 0 else a
def gT (a b : Int) : Int := if b ≤ a then 0 else b
theorem andF_self (a b : Int) : andF a b a b = gF a b := by simp [andF, gF, Int.min_self, Int.max_self]
theorem andT_self (a b : Int) : andT a b a b = gT a b := by simp [andT, gT, Int.min_self, Int.max_self]

theorem Out1_any (f t n : Int) (h1 : 1 ≤ n) (h2 : n ≤ 1099511627776) (hf : bnd f) (ht : bnd t) (Bn : Nat) (w : World) (hBn : Bn < w.heap.size) (hc : w.cell? ⟨Bn, 0, none⟩ = some (.int .i64 n)) :
    Calls Try.prog 58 #[Sp f t, .pointer (some ⟨Bn, 0, none⟩)] w fun e w' => e = .returned (Sp (fl f n) (cl t n)) ∧ Below w.heap.size w w' := by
  unfold bnd at hf ht
  have hb := fl_bd (-t) n h1
  have e1 : IntKind.i64.wrap (-t) = -t := by rw [IntKind.wrap_i64]; omega
  have e2 : IntKind.i64.wrap (-fl (-t) n) = -fl (-t) n := by rw [IntKind.wrap_i64]; omega
  have b3 : -4611687117939015680 ≤ -t ∧ -t ≤ 4611687117939015680 := by omega
  go_enter Try.func58, Try.ntmps58
  go_wp2
  go_region_held3 (fun w' => w'.cell? ⟨w.heap.size, 0, none⟩ = some (.int .i64 f) ∧ w'.cell? ⟨w.heap.size, 1, none⟩ = some (.int .i64 t) ∧ w'.cell? ⟨Bn, 0, none⟩ = some (.int .i64 n))
    (refine ⟨?_, ?_, ?_⟩ <;> first | (simp [go_sem, World.cell?_alloc_past]; done) | (exact cell_al (cell_al hc hBn _) (by simp; omega) _))
    (first
      | ((with_reducible refine (floor_any _ n h1 h2 (by omega) (by omega) _).mono ?_); rintro e w1 ⟨rfl, rfl⟩))
  go_wp2
  refine bodyPost_ret (v := Sp (fl f n) (cl t n)) (by simp [results, Try.results58, go_sem, cl]) rfl ⟨rfl, by go_grown⟩

theorem In1_any (f t n : Int) (h1 : 1 ≤ n) (h2 : n ≤ 1099511627776) (hf : bnd f) (ht : bnd t) (Bn : Nat) (w : World) (hBn : Bn < w.heap.size) (hc : w.cell? ⟨Bn, 0, none⟩ = some (.int .i64 n)) :
    Calls Try.prog 59 #[Sp f t, .pointer (some ⟨Bn, 0, none⟩)] w fun e w' => e = .returned (Sp (cl f n) (fl t n)) ∧ Below w.heap.size w w' := by
  unfold bnd at hf ht
  have hb := fl_bd (-f) n h1
  have e1 : IntKind.i64.wrap (-f) = -f := by rw [IntKind.wrap_i64]; omega
  have e2 : IntKind.i64.wrap (-fl (-f) n) = -fl (-f) n := by rw [IntKind.wrap_i64]; omega
  have b3 : -4611687117939015680 ≤ -f ∧ -f ≤ 4611687117939015680 := by omega
  go_enter Try.func59, Try.ntmps59
  go_wp2
  go_region_held3 (fun w' => w'.cell? ⟨w.heap.size, 0, none⟩ = some (.int .i64 f) ∧ w'.cell? ⟨w.heap.size, 1, none⟩ = some (.int .i64 t) ∧ w'.cell? ⟨Bn, 0, none⟩ = some (.int .i64 n))
    (refine ⟨?_, ?_, ?_⟩ <;> first | (simp [go_sem, World.cell?_alloc_past]; done) | (exact cell_al (cell_al hc hBn _) (by simp; omega) _))
    (first
      | ((with_reducible refine (floor_any _ n h1 h2 (by omega) (by omega) _).mono ?_); rintro e w1 ⟨rfl, rfl⟩))
  go_wp2
  refine bodyPost_ret (v := Sp (cl f n) (fl t n)) (by simp [results, Try.results59, go_sem, cl]) rfl ⟨rfl, by go_grown⟩

def OutF (f t n : Int) : Int := if wrg n [f, t] = 0 ∧ f < t then gF (fl f n) (cl t n) else 0
def OutT (f t n : Int) : Int := if wrg n [f, t] = 0 ∧ f < t then gT (fl f n) (cl t n) else 0

theorem wholeOut_any (f t n : Int) (Bn : Nat) (w : World) (hBn : Bn < w.heap.size) (hc : w.cell? ⟨Bn, 0, none⟩ = some (.int .i64 n)) :
    Calls Try.prog 57 #[Sp f t, .int .i64 n, .func (.func 58) #[] #[.pointer (some ⟨Bn, 0, none⟩)]] w fun e w' => e = .returned (.tuple #[Sp (OutF f t n) (OutT f t n), .int .i64 (wrg n [f, t])]) ∧ Below w.heap.size w w' := by
  by_cases h : wrg n [f, t] = 0
  · obtain ⟨h1, h2, h3⟩ := wrg_zero h
    have hbf : bnd f := h3 f (by simp)
    have hbt : bnd t := h3 t (by simp)
    by_cases hlt : f < t
    · have hf1 : OutF f t n = gF (fl f n) (cl t n) := if_pos ⟨h, hlt⟩
      have hf2 : OutT f t n = gT (fl f n) (cl t n) := if_pos ⟨h, hlt⟩
      rw [hf1, hf2, h]
      have H := Lib.hid h
      have hd : decide (t ≤ f) = false := by simpa using hlt
      clear h hf1 hf2 h3
      go_enter Try.func57, Try.ntmps57
      go_wp2_with (first
        | (go_at_call 55; refine (wrong_any n [f, t] _ _ _ _ (by exact rd_two _ _ _ _ _ _ (by simp) (Nat.lt_add_one _)) (by simp)).mono ?_; rw [H.out]; rintro e w1 ⟨rfl, rfl⟩)
        | (go_at_call 43; refine (empty_any _ _ _).mono ?_; rintro e w1 ⟨rfl, hb⟩; obtain ⟨hc1, hf1⟩ := bcell hb; have hsz := hb.size; simp at hsz; have hb' : Below w.heap.size w w1 := Below.trans (by go_grown) (hb.mono (B' := w.heap.size) (by first | omega | (simp; done) | (simp; omega))); have hcB : w1.cell? ⟨Bn, 0, none⟩ = some (.int .i64 n) := cell_be hc hb' hBn))
      refine (Out1_any f t n h1 h2 hbf hbt Bn _ (by omega) hcB).mono ?_; rintro e w2 ⟨rfl, hb2⟩; obtain ⟨hc2, hf2⟩ := bcell hb2; have hsz2 := hb2.size
      have x0 : w.heap.size < w1.heap.size := by omega
      have x1 : w.heap.size + 1 < w1.heap.size := by omega
      have z0 : w.heap.size < w2.heap.size := by omega
      have z1 : w.heap.size + 1 < w2.heap.size := by omega
      have hb2' : Below w.heap.size w w2 := Below.trans (by go_grown) (hb2.mono (B' := w.heap.size) (by first | omega | (simp; done) | (simp; omega)))
      go_wp2_with fail
      refine (and_any _ _ _ _ _).mono ?_; rw [andF_self, andT_self]; rintro e w3 ⟨rfl, hb3⟩; obtain ⟨hc3, hf3⟩ := bcell hb3; have hsz3 := hb3.size
      simp at hsz3
      have y0 : w.heap.size < w3.heap.size := by omega
      have y1 : w.heap.size + 1 < w3.heap.size := by omega
      have hb3' : Below w.heap.size w w3 := Below.trans (by go_grown) (hb3.mono (B' := w.heap.size) (by first | omega | (simp; done) | (simp; omega)))
      go_wp2_with fail
      refine bodyPost_ret (v := .tuple #[Sp (gF (fl f n) (cl t n)) (gT (fl f n) (cl t n)), .int .i64 0]) (by simp [results, Try.results57, go_sem, hc3, hc2, hc1, x1, z0, z1]) rfl ⟨rfl, by go_grown⟩
    · have hf1 : OutF f t n = 0 := if_neg (by simp [hlt])
      have hf2 : OutT f t n = 0 := if_neg (by simp [hlt])
      rw [hf1, hf2, h]
      have H := Lib.hid h
      have hd : decide (t ≤ f) = true := by simpa using hlt
      clear h hf1 hf2 h3
      go_enter Try.func57, Try.ntmps57
      go_wp2_with (first
        | (go_at_call 55; refine (wrong_any n [f, t] _ _ _ _ (by exact rd_two _ _ _ _ _ _ (by simp) (Nat.lt_add_one _)) (by simp)).mono ?_; rw [H.out]; rintro e w1 ⟨rfl, rfl⟩)
        | (go_at_call 43; refine (empty_any _ _ _).mono ?_; rintro e w1 ⟨rfl, hb⟩; obtain ⟨hc1, hf1⟩ := bcell hb; have hsz := hb.size; simp at hsz; have hb' : Below w.heap.size w w1 := Below.trans (by go_grown) (hb.mono (B' := w.heap.size) (by first | omega | (simp; done) | (simp; omega)))))
      refine bodyPost_ret (v := .tuple #[Sp 0 0, .int .i64 0]) (by simp [results, Try.results57, go_sem, hc1]) rfl ⟨rfl, by go_grown⟩
  · have hf1 : OutF f t n = 0 := if_neg (by simp [h])
    have hf2 : OutT f t n = 0 := if_neg (by simp [h])
    rw [hf1, hf2]
    have hne : (wrg n [f, t] != 0) = true := by simpa using h
    clear h hf1 hf2
    go_enter Try.func57, Try.ntmps57
    go_wp2_with (go_at_call 55; refine (wrong_any n [f, t] _ _ _ _ (by exact rd_two _ _ _ _ _ _ (by simp) (Nat.lt_add_one _)) (by simp)).mono ?_; rintro e w1 ⟨rfl, rfl⟩)
    refine bodyPost_ret (v := .tuple #[Sp 0 0, .int .i64 (wrg n [f, t])]) (by simp [results, Try.results57, go_sem]) rfl ⟨rfl, by go_grown⟩

theorem Out_any (f t n : Int) (w : World) :
    Calls Try.prog 37 #[Sp f t, .int .i64 n] w fun e w' => e = .returned (.tuple #[Sp (OutF f t n) (OutT f t n), .int .i64 (wrg n [f, t])]) ∧ Below w.heap.size w w' := by
  go_enter Try.func37, Try.ntmps37
  go_wp2_with (go_at_call 57; refine (wholeOut_any f t n _ _ (by simp) (by simp [go_sem])).mono ?_; rintro e w1 ⟨rfl, hb⟩; obtain ⟨hc1, hf1⟩ := bcell hb; have hsz := hb.size; simp at hsz; have hb' : Below w.heap.size w w1 := Below.trans (by go_grown) (hb.mono (B' := w.heap.size) (by first | omega | (simp; done) | (simp; omega))))
  refine bodyPost_ret (v := .tuple #[Sp (OutF f t n) (OutT f t n), .int .i64 (wrg n [f, t])]) (by simp [results, Try.results37, go_sem, hc1]) rfl ⟨rfl, by go_grown⟩

def InF (f t n : Int) : Int := if wrg n [f, t] = 0 ∧ f < t then gF (cl f n) (fl t n) else 0
def InT (f t n : Int) : Int := if wrg n [f, t] = 0 ∧ f < t then gT (cl f n) (fl t n) else 0

theorem wholeIn_any (f t n : Int) (Bn : Nat) (w : World) (hBn : Bn < w.heap.size) (hc : w.cell? ⟨Bn, 0, none⟩ = some (.int .i64 n)) :
    Calls Try.prog 57 #[Sp f t, .int .i64 n, .func (.func 59) #[] #[.pointer (some ⟨Bn, 0, none⟩)]] w fun e w' => e = .returned (.tuple #[Sp (InF f t n) (InT f t n), .int .i64 (wrg n [f, t])]) ∧ Below w.heap.size w w' := by
  by_cases h : wrg n [f, t] = 0
  · obtain ⟨h1, h2, h3⟩ := wrg_zero h
    have hbf : bnd f := h3 f (by simp)
    have hbt : bnd t := h3 t (by simp)
    by_cases hlt : f < t
    · have hf1 : InF f t n = gF (cl f n) (fl t n) := if_pos ⟨h, hlt⟩
      have hf2 : InT f t n = gT (cl f n) (fl t n) := if_pos ⟨h, hlt⟩
      rw [hf1, hf2, h]
      have H := Lib.hid h
      have hd : decide (t ≤ f) = false := by simpa using hlt
      clear h hf1 hf2 h3
      go_enter Try.func57, Try.ntmps57
      go_wp2_with (first
        | (go_at_call 55; refine (wrong_any n [f, t] _ _ _ _ (by exact rd_two _ _ _ _ _ _ (by simp) (Nat.lt_add_one _)) (by simp)).mono ?_; rw [H.out]; rintro e w1 ⟨rfl, rfl⟩)
        | (go_at_call 43; refine (empty_any _ _ _).mono ?_; rintro e w1 ⟨rfl, hb⟩; obtain ⟨hc1, hf1⟩ := bcell hb; have hsz := hb.size; simp at hsz; have hb' : Below w.heap.size w w1 := Below.trans (by go_grown) (hb.mono (B' := w.heap.size) (by first | omega | (simp; done) | (simp; omega))); have hcB : w1.cell? ⟨Bn, 0, none⟩ = some (.int .i64 n) := cell_be hc hb' hBn))
      refine (In1_any f t n h1 h2 hbf hbt Bn _ (by omega) hcB).mono ?_; rintro e w2 ⟨rfl, hb2⟩; obtain ⟨hc2, hf2⟩ := bcell hb2; have hsz2 := hb2.size
      have x0 : w.heap.size < w1.heap.size := by omega
      have x1 : w.heap.size + 1 < w1.heap.size := by omega
      have z0 : w.heap.size < w2.heap.size := by omega
      have z1 : w.heap.size + 1 < w2.heap.size := by omega
      have hb2' : Below w.heap.size w w2 := Below.trans (by go_grown) (hb2.mono (B' := w.heap.size) (by first | omega | (simp; done) | (simp; omega)))
      go_wp2_with fail
      refine (and_any _ _ _ _ _).mono ?_; rw [andF_self, andT_self]; rintro e w3 ⟨rfl, hb3⟩; obtain ⟨hc3, hf3⟩ := bcell hb3; have hsz3 := hb3.size
      simp at hsz3
      have y0 : w.heap.size < w3.heap.size := by omega
      have y1 : w.heap.size + 1 < w3.heap.size := by omega
      have hb3' : Below w.heap.size w w3 := Below.trans (by go_grown) (hb3.mono (B' := w.heap.size) (by first | omega | (simp; done) | (simp; omega)))
      go_wp2_with fail
      refine bodyPost_ret (v := .tuple #[Sp (gF (cl f n) (fl t n)) (gT (cl f n) (fl t n)), .int .i64 0]) (by simp [results, Try.results57, go_sem, hc3, hc2, hc1, x1, z0, z1]) rfl ⟨rfl, by go_grown⟩
    · have hf1 : InF f t n = 0 := if_neg (by simp [hlt])
      have hf2 : InT f t n = 0 := if_neg (by simp [hlt])
      rw [hf1, hf2, h]
      have H := Lib.hid h
      have hd : decide (t ≤ f) = true := by simpa using hlt
      clear h hf1 hf2 h3
      go_enter Try.func57, Try.ntmps57
      go_wp2_with (first
        | (go_at_call 55; refine (wrong_any n [f, t] _ _ _ _ (by exact rd_two _ _ _ _ _ _ (by simp) (Nat.lt_add_one _)) (by simp)).mono ?_; rw [H.out]; rintro e w1 ⟨rfl, rfl⟩)
        | (go_at_call 43; refine (empty_any _ _ _).mono ?_; rintro e w1 ⟨rfl, hb⟩; obtain ⟨hc1, hf1⟩ := bcell hb; have hsz := hb.size; simp at hsz; have hb' : Below w.heap.size w w1 := Below.trans (by go_grown) (hb.mono (B' := w.heap.size) (by first | omega | (simp; done) | (simp; omega)))))
      refine bodyPost_ret (v := .tuple #[Sp 0 0, .int .i64 0]) (by simp [results, Try.results57, go_sem, hc1]) rfl ⟨rfl, by go_grown⟩
  · have hf1 : InF f t n = 0 := if_neg (by simp [h])
    have hf2 : InT f t n = 0 := if_neg (by simp [h])
    rw [hf1, hf2]
    have hne : (wrg n [f, t] != 0) = true := by simpa using h
    clear h hf1 hf2
    go_enter Try.func57, Try.ntmps57
    go_wp2_with (go_at_call 55; refine (wrong_any n [f, t] _ _ _ _ (by exact rd_two _ _ _ _ _ _ (by simp) (Nat.lt_add_one _)) (by simp)).mono ?_; rintro e w1 ⟨rfl, rfl⟩)
    refine bodyPost_ret (v := .tuple #[Sp 0 0, .int .i64 (wrg n [f, t])]) (by simp [results, Try.results57, go_sem]) rfl ⟨rfl, by go_grown⟩

theorem In_any (f t n : Int) (w : World) :
    Calls Try.prog 38 #[Sp f t, .int .i64 n] w fun e w' => e = .returned (.tuple #[Sp (InF f t n) (InT f t n), .int .i64 (wrg n [f, t])]) ∧ Below w.heap.size w w' := by
  go_enter Try.func38, Try.ntmps38
  go_wp2_with (go_at_call 57; refine (wholeIn_any f t n _ _ (by simp) (by simp [go_sem])).mono ?_; rintro e w1 ⟨rfl, hb⟩; obtain ⟨hc1, hf1⟩ := bcell hb; have hsz := hb.size; simp at hsz; have hb' : Below w.heap.size w w1 := Below.trans (by go_grown) (hb.mono (B' := w.heap.size) (by first | omega | (simp; done) | (simp; omega))))
  refine bodyPost_ret (v := .tuple #[Sp (InF f t n) (InT f t n), .int .i64 (wrg n [f, t])]) (by simp [results, Try.results38, go_sem, hc1]) rfl ⟨rfl, by go_grown⟩
end Go.Proofs.Ytiohdacbnigpkaa

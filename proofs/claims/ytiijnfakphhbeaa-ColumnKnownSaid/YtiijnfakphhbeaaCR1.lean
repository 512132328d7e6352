/- The walks of the reference's Column and Bits (layer 6). No condition but sizes. -/
import Derived.Test.YtiijnfakphhbeaaCol14
import Derived.Test.YtiijnfakphhbeaaLess
namespace Go.Proofs.Ytiijnfakphhbeaa
open Go.RowKit Go.Maps
set_option linter.unusedVariables false
set_option linter.unusedSimpArgs false

set_option maxHeartbeats 4000000 in
set_option maxRecDepth 100000 in
theorem rColumn_any (B : Nat) (A : Option Addr) (c : Nat) (t : UInt8) (l : List V) (w : World) (hl : Rd w B A (vcells l)) (hB : B ≤ w.heap.size) (hll : l.length ≤ 4294967296) (hok : ∀ v ∈ l, v.k < 256) :
    Calls Try.prog 18 #[b8 t, .slice A l.length c] w fun e w' => e = .returned (.bool (colok t l)) ∧ Below w.heap.size w w' := by
  have ht256 := t.toNat_lt
  obtain ⟨n, hn⟩ : ∃ n, n = l.length := ⟨_, rfl⟩
  have hco : colok t l = (tyok t && (decide (n ≤ 65536) && l.all (rmay t))) := by unfold colok; rw [hn]
  have HCO := Lib.hid hco
  have HN := Lib.hid hn
  have HOK := Lib.hid hok
  rw [← hn] at hll ⊢
  clear hco hn hok
  by_cases h1 : t.toNat < 1
  · have hE : colok t l = false := by
      have : tyok t = false := by unfold tyok; simp; omega
      rw [HCO.out, this]; rfl
    have hI : decide ((t.toNat : Int) < 1) = true := decide_eq_true (by omega)
    have HE := Lib.hid hE
    clear hE h1
    go_enter Try.func18, Try.ntmps18
    go_wp2_with fail
    go_ret
    exact ⟨by rw [HE.out]; rfl, Below.refl _ _⟩
  have hI1 : decide ((t.toNat : Int) < 1) = false := decide_eq_false (by omega)
  by_cases h3 : 3 < t.toNat
  · have hE : colok t l = false := by
      have : tyok t = false := by unfold tyok; simp; omega
      rw [HCO.out, this]; rfl
    have hI : decide ((3 : Int) < (t.toNat : Int)) = true := decide_eq_true (by omega)
    have HE := Lib.hid hE
    clear hE h3 h1
    go_enter Try.func18, Try.ntmps18
    go_wp2_with fail
    go_ret
    exact ⟨by rw [HE.out]; rfl, Below.refl _ _⟩
  have hI3 : decide ((3 : Int) < (t.toNat : Int)) = false := decide_eq_false (by omega)
  have hty : tyok t = true := by unfold tyok; simp; omega
  by_cases h6 : 65536 < n
  · have hE : colok t l = false := by
      rw [HCO.out, hty, show decide (n ≤ 65536) = false from decide_eq_false (by omega)]; rfl
    have hI : decide ((65536 : Int) < (n : Int)) = true := decide_eq_true (by omega)
    have HE := Lib.hid hE
    clear hE h3 h1 hty
    go_enter Try.func18, Try.ntmps18
    go_wp2_with fail
    go_ret
    exact ⟨by rw [HE.out]; rfl, Below.refl _ _⟩
  have hI6 : decide ((65536 : Int) < (n : Int)) = false := decide_eq_false (by omega)
  have hall : colok t l = l.all (rmay t) := by rw [HCO.out, hty, show decide (n ≤ 65536) = true from decide_eq_true (by omega)]; rfl
  have HALL := Lib.hid hall
  have H13 : Hid (1 ≤ t.toNat ∧ t.toNat ≤ 3) := Lib.hid ⟨by omega, by omega⟩
  clear hall hty h1 h3 HCO
  go_enter Try.func18, Try.ntmps18
  go_wp2_with fail
  go_loopw [5] (fun v5 wr => ∃ k : Nat, k ≤ n ∧ v5 = .int .i64 k ∧ (∀ y ∈ l.take k, rmay t y = true) ∧ Below w.heap.size w wr) (fun v5 _ => n - (intOf v5).toNat)
  case atStart => exact ⟨0, by omega, rfl, by simp, Below.refl _ _⟩
  case round =>
    obtain ⟨k, hk, rfl, hyes, hbel⟩ := hrel
    have HY := Lib.hid hyes
    clear hyes
    by_cases hlt : k < n
    case neg =>
      have hkn : k = n := by omega
      have hE : colok t l = true := by
        rw [HALL.out]
        refine all_yes (fun y hy => HY.out y ?_)
        rw [hkn, HN.out]; exact hy
      have HE := Lib.hid hE
      have hge : (n : Int) ≤ (k : Int) := by omega
      clear hkn hE
      go_wp2_with fail
      go_ret
      exact ⟨by rw [HE.out]; rfl, hbel⟩
    obtain ⟨v, hv⟩ : ∃ v, l[k]? = some v := ⟨_, List.getElem?_eq_getElem (by rw [← HN.out]; exact hlt)⟩
    obtain ⟨gb, go, rfl, hgb, q0, q1, q2⟩ := rd_val hl hv
    have r0 := (hbel.cell (p := ⟨gb, go + k * 3, none⟩) (by show gb < _; omega)).trans q0
    have r1 := (hbel.cell (p := ⟨gb, go + k * 3 + 1, none⟩) (by show gb < _; omega)).trans q1
    have r2 := (hbel.cell (p := ⟨gb, go + k * 3 + 2, none⟩) (by show gb < _; omega)).trans q2
    have hkI : (k : Int) < (n : Int) := by omega
    have hvk := HOK.out v (List.mem_of_getElem? hv)
    have M0 := fun w => May_any v hvk w
    have HV := Lib.hid hv
    have hrm : rmay t v = (mayB v && (decide (v.k = 0) || decide (v.k = t.toNat))) := rfl
    obtain ⟨mv, hmv⟩ : ∃ m, m = mayB v := ⟨_, rfl⟩
    rw [← hmv] at M0 hrm
    have HM := Lib.hid M0
    have HRM := Lib.hid hrm
    clear q0 q1 q2 hv M0 hmv hrm
    cases mv
    case false =>
      have hE : colok t l = false := by rw [HALL.out]; exact all_no HV.out (by rw [HRM.out]; rfl)
      have HE := Lib.hid hE
      clear hE
      go_wp2_with fail
      refine (HM.out _).mono ?_; rintro e w4 ⟨rfl, hb4⟩
      go_wp2_with fail
      go_ret
      exact ⟨by rw [HE.out]; rfl, hbel.trans (hb4.mono hbel.size)⟩
    by_cases h0 : v.k = 0
    · have hB0 : ((v.k : Int) != 0) = false := by simp; omega
      have hr : rmay t v = true := by rw [HRM.out]; simp [h0]
      have HR := Lib.hid hr
      clear hr h0
      go_wp2_with fail
      refine (HM.out _).mono ?_; rintro e w4 ⟨rfl, hb4⟩
      have s0 := cell_be r0 hb4 (cell_lt r0)
      have hb04 : Below w.heap.size w w4 := hbel.trans (hb4.mono hbel.size)
      go_wp2_with fail
      go_roundw
      case rel => exact ⟨k + 1, by omega, by go_num, all_more HY.out HV.out HR.out, hb04⟩
      case measure => simp [intOf]; omega
    have hB0 : ((v.k : Int) != 0) = true := by simp; omega
    by_cases he : v.k = t.toNat
    · have hBe : ((v.k : Int) != (t.toNat : Int)) = false := by simp; omega
      have hr : rmay t v = true := by rw [HRM.out]; simp [he]
      have HR := Lib.hid hr
      clear hr he h0
      go_wp2_with fail
      refine (HM.out _).mono ?_; rintro e w4 ⟨rfl, hb4⟩
      have s0 := cell_be r0 hb4 (cell_lt r0)
      have hb04 : Below w.heap.size w w4 := hbel.trans (hb4.mono hbel.size)
      go_wp2_with fail
      go_roundw
      case rel => exact ⟨k + 1, by omega, by go_num, all_more HY.out HV.out HR.out, hb04⟩
      case measure => simp [intOf]; omega
    · have hBe : ((v.k : Int) != (t.toNat : Int)) = true := by simp; omega
      have hE : colok t l = false := by rw [HALL.out]; exact all_no HV.out (by rw [HRM.out]; simp [h0, he])
      have HE := Lib.hid hE
      clear hE he h0
      go_wp2_with fail
      refine (HM.out _).mono ?_; rintro e w4 ⟨rfl, hb4⟩
      have s0 := cell_be r0 hb4 (cell_lt r0)
      go_wp2_with fail
      go_ret
      exact ⟨by rw [HE.out]; rfl, hbel.trans (hb4.mono hbel.size)⟩

/-! ### bits -/
def nbq (p : Nat → Bool) (k : Nat) : List UInt8 := bitsTo (size8 k) p k
def nbr (p : Nat → Bool) (k : Nat) : List UInt8 := bitsTo (size8 (k + 1)) p k
theorem nbq_len (p : Nat → Bool) (k : Nat) : (nbq p k).length = size8 k := bitsTo_len _ _ _
theorem nbr_len (p : Nat → Bool) (k : Nat) : (nbr p k).length = size8 (k + 1) := bitsTo_len _ _ _
theorem layP_more (m : Nat) (p : Nat → Bool) : layP (m + 1) p = layP m p ++ [(byteP p m).toUInt8] := by
  unfold layP; rw [List.range_succ, List.map_append]; rfl
theorem nbr_0 {p : Nat → Bool} {k : Nat} (h : k % 8 = 0) : nbr p k = nbq p k ++ [0] := by
  have e : size8 (k + 1) = size8 k + 1 := by unfold size8; omega
  have e2 : size8 k = k / 8 := by unfold size8; omega
  unfold nbr nbq bitsTo
  rw [e, layP_more]
  congr 2
  have : byteP (fun i => decide (i < k) && p i) (size8 k) = byteP (fun _ => false) (size8 k) := byteP_congr fun r hr => by
    have : ¬ (8 * size8 k + r < k) := by omega
    simp [this]
  rw [this]
  simp [byteP, bw]
theorem nbr_n0 {p : Nat → Bool} {k : Nat} (h : k % 8 ≠ 0) : nbr p k = nbq p k := by
  have e : size8 (k + 1) = size8 k := by unfold size8; omega
  unfold nbr nbq
  rw [e]
theorem nbr_own {w : World} {base : Nat} {v : Value} {a bs : List UInt8} (h : w.ownsRow base 5 1 v (a.length + 1) (cells a ++ [.int .u8 0])) (hb : bs = a ++ [0]) : w.ownsRow base 5 1 v bs.length (cells bs) := by
  rw [hb, cells_append, List.length_append]; exact h
def blF (l : List Bool) (i : Nat) : Bool := l.getD i false
set_option maxHeartbeats 4000000 in
set_option maxRecDepth 100000 in
theorem rBits_any (B : Nat) (A : Option Addr) (c : Nat) (l : List Bool) (w : World) (hl : Rd w B A (bools l)) (hB : B ≤ w.heap.size) (hll : l.length ≤ 4294967296) :
    Calls Try.prog 32 #[.slice A l.length c] w (RetB w (bitsN l.length (blF l))) := by
  obtain ⟨n, hn⟩ : ∃ n, n = l.length := ⟨_, rfl⟩
  have HN := Lib.hid hn
  rw [← hn] at hll ⊢
  clear hn
  obtain ⟨p, hp⟩ : ∃ p, p = blF l := ⟨_, rfl⟩
  have HP := Lib.hid hp
  rw [← hp]
  clear hp
  go_enter Try.func32, Try.ntmps32
  go_wp2_with fail
  go_loopw [3, 4] (fun v3 v4 wr => ∃ k : Nat, k ≤ n ∧ v4 = .int .i64 k ∧ wr.ownsRow w.heap.size 5 1 v3 (nbq p k).length (cells (nbq p k)) ∧ Below w.heap.size w wr) (fun _ v4 _ => n - (intOf v4).toNat)
  case atStart => exact ⟨0, by omega, rfl, World.ownsRow_nil _ _ _ _, Below.refl _ _⟩
  case round =>
    obtain ⟨k, hk, rfl, hown, hbel⟩ := hrel
    by_cases hlt : k < n
    case neg =>
      have hkn : k = n := by omega
      have hge : (n : Int) ≤ (k : Int) := by omega
      have hE : nbq p k = bitsN n p := by rw [hkn]; rfl
      rw [hE] at hown
      clear hkn hE
      go_wp2_with fail
      go_ret
      exact retB_of hown hbel
    have hkI : (k : Int) < (n : Int) := by omega
    obtain ⟨gb, go, rfl, hgb, hcl⟩ := hl.at (k := k) (by rw [List.length_map, ← HN.out]; exact hlt)
    have hck := hcl k (.bool (p k)) (by rw [List.getElem?_map, List.getElem?_eq_getElem (by rw [← HN.out]; exact hlt), HP.out]; unfold blF; rw [List.getD_eq_getElem?_getD, List.getElem?_eq_getElem (by rw [← HN.out]; exact hlt)]; rfl)
    have F1 : ∀ w', Below w.heap.size w w' → w'.cell? ⟨gb, go + k, none⟩ = some (.bool (p k)) := fun w' hb => (hb.cell (p := ⟨gb, go + k, none⟩) (by show gb < _; omega)).trans hck
    have hl1 := nbq_len p k
    have hl2 : size8 k ≤ 4294967296 := by unfold size8; omega
    have hpos : 0 < (nbr p k).length := by rw [nbr_len]; unfold size8; omega
    have hlm : (nbr p k).length ≤ 4294967296 := by rw [nbr_len]; unfold size8; omega
    have hk8 : k < 8 * size8 (k + 1) := by unfold size8; omega
    have hget : (nbr p k)[k / 8]? = some (byteTo p k).toUInt8 := bitsTo_get p hk8
    have hadd := @byteTo_add p k
    have hNV : p k = false → nbq p (k + 1) = nbr p k := fun h => bitsTo_no h
    have hNN : p k = true → nbq p (k + 1) = (nbr p k).set (k / 8) (byteTo p k + 2 ^ (k % 8)).toUInt8 := fun h => by rw [hadd.1]; exact bitsTo_yes h hk8
    obtain ⟨x, hx⟩ : ∃ x, x = byteTo p k := ⟨_, rfl⟩
    have hx256 : x < 256 := by rw [hx]; exact byteTo_lt _ _
    rw [← hx] at hget hadd hNN
    have hxa := hadd.2
    obtain ⟨j, hj⟩ : ∃ j, j = k / 8 := ⟨_, rfl⟩
    obtain ⟨r, hr⟩ : ∃ r, r = k % 8 := ⟨_, rfl⟩
    have hjI : (k : Int) / 8 = (j : Int) := by omega
    have hr8 : r < 8 := by omega
    have htm : (k : Int).tmod 8 = (r : Int) := by rw [Int.tmod_eq_emod_of_nonneg (by omega)]; omega
    have hjb : j < (nbr p k).length := by rw [nbr_len]; unfold size8; omega
    have hwj : IntKind.i64.wrap (j : Int) = (j : Int) := by rw [IntKind.wrap_i64]; omega
    have hsh := fun w => shl8 r hr8 w
    rw [← hj] at hget hNN
    rw [← hr] at hxa hNN
    have hadd := add8 x (2 ^ r) hxa
    have hN0 : k % 8 = 0 → nbr p k = nbq p k ++ [0] := nbr_0
    have hN1 : k % 8 ≠ 0 → nbr p k = nbq p k := nbr_n0
    obtain ⟨bs, hbs⟩ : ∃ bs, bs = nbr p k := ⟨_, rfl⟩
    obtain ⟨pk, hpk⟩ : ∃ x, x = p k := ⟨_, rfl⟩
    rw [← hpk] at F1 hNV hNN
    rw [← hbs] at hpos hlm hget hjb hNV hNN hN0 hN1
    have hjLI : (j : Int) < (bs.length : Int) := by omega
    have HGET := Lib.hid hget
    have HNV := Lib.hid hNV
    have HNN := Lib.hid hNN
    have HN0 := Lib.hid hN0
    have HN1 := Lib.hid hN1
    have HX := Lib.hid hx
    clear hcl hck hx hj hget hNV hNN hN0 hN1 hbs hpk
    by_cases hm8 : k % 8 = 0
    · have hm8I : ((k : Int) % 8 == 0) = true := by simp; omega
      cases pk
      case true =>
        have HNN2 := Lib.hid (HNN.out rfl)
        go_wp2_with (at_builtin; refine wpList_app El_u8 rfl _ _ rfl (hown.alloc _) rfl rfl (by exact rd_one _ _ _ _ _ rfl (Nat.lt_add_one _)) rfl one_int (by unfold maxLen; omega) (by omega) (by have := hbel.size; simp; omega) ?_; intro v2 w2 hown2 hg2 _; have hb2 : Below w.heap.size w w2 := (hbel.alloc hbel.size _).trans (own_below (hown.alloc _) hg2 (by have := hbel.size; simp; omega)); have f1 := F1 w2 hb2; have hown3 := nbr_own hown2 (HN0.out hm8); obtain ⟨g, cap, rfl, hg1, hg3⟩ := own_some hown3 hpos)
        have hget := HGET.out
        have hcell : w2.cell? ⟨g, j, none⟩ = some (.int .u8 (x : Int)) := by
          rw [hown3.cellAt j (by omega), List.getElem?_map, hget]
          simp [b8, toNat_toUInt8 hx256]
        have hfr : w2.frozen? ⟨g, j, none⟩ = false := hown3.frozenAt j
        clear hget
        refine ah_start 14 (fun w' => True) rfl (by kernel_rfl) trivial ?_ ; intro hS
        (refine mv_val 0 (v := ?_) rfl (by kernel_rfl) (by kernel_rfl) (by kernel_rfl) (fun _ _ _ h => h) (by rfl) hS ?_ ?_; rotate_left; (focus (intro w hSw; (try dsimp only at hSw); (have f2 := hjb; have f3 := hjI; have f5 := hjLI; have f6 := hr8; have f7 := hwj; have f8 := htm; have f9 := hsh w; have f10 := hadd); go_simp; first | done | with_reducible rfl)); simp only [Act.put, List.setIfInBounds_toArray, List.set_cons_zero, List.set_cons_succ])
        (refine mv_val 1 (v := ?_) rfl (by kernel_rfl) (by kernel_rfl) (by kernel_rfl) (fun _ _ _ h => h) (by rfl) hS ?_ ?_; rotate_left; (focus (intro w hSw; (try dsimp only at hSw); (have f2 := hjb; have f3 := hjI; have f5 := hjLI; have f6 := hr8; have f7 := hwj; have f8 := htm; have f9 := hsh w; have f10 := hadd); go_simp; first | done | with_reducible rfl)); simp only [Act.put, List.setIfInBounds_toArray, List.set_cons_zero, List.set_cons_succ])
        (refine mv_val 2 (v := ?_) rfl (by kernel_rfl) (by kernel_rfl) (by kernel_rfl) (fun _ _ _ h => h) (by rfl) hS ?_ ?_; rotate_left; (focus (intro w hSw; (try dsimp only at hSw); (have f2 := hjb; have f3 := hjI; have f5 := hjLI; have f6 := hr8; have f7 := hwj; have f8 := htm; have f9 := hsh w; have f10 := hadd); go_simp; first | done | with_reducible rfl)); simp only [Act.put, List.setIfInBounds_toArray, List.set_cons_zero, List.set_cons_succ])
        (refine mv_val 3 (v := ?_) rfl (by kernel_rfl) (by kernel_rfl) (by kernel_rfl) (fun _ _ _ h => h) (by rfl) hS ?_ ?_; rotate_left; (focus (intro w hSw; (try dsimp only at hSw); (have f2 := hjb; have f3 := hjI; have f5 := hjLI; have f6 := hr8; have f7 := hwj; have f8 := htm; have f9 := hsh w; have f10 := hadd); go_simp; first | done | with_reducible rfl)); simp only [Act.put, List.setIfInBounds_toArray, List.set_cons_zero, List.set_cons_succ])
        (refine mv_val 4 (v := ?_) rfl (by kernel_rfl) (by kernel_rfl) (by kernel_rfl) (fun _ _ _ h => h) (by rfl) hS ?_ ?_; rotate_left; (focus (intro w hSw; (try dsimp only at hSw); (have f2 := hjb; have f3 := hjI; have f5 := hjLI; have f6 := hr8; have f7 := hwj; have f8 := htm; have f9 := hsh w; have f10 := hadd); go_simp; first | done | with_reducible rfl)); simp only [Act.put, List.setIfInBounds_toArray, List.set_cons_zero, List.set_cons_succ])
        (refine mv_val 5 (v := ?_) rfl (by kernel_rfl) (by kernel_rfl) (by kernel_rfl) (fun _ _ _ h => h) (by rfl) hS ?_ ?_; rotate_left; (focus (intro w hSw; (try dsimp only at hSw); (have f2 := hjb; have f3 := hjI; have f5 := hjLI; have f6 := hr8; have f7 := hwj; have f8 := htm; have f9 := hsh w; have f10 := hadd); go_simp; first | done | with_reducible rfl)); simp only [Act.put, List.setIfInBounds_toArray, List.set_cons_zero, List.set_cons_succ])
        (refine mv_val 6 (v := ?_) rfl (by kernel_rfl) (by kernel_rfl) (by kernel_rfl) (fun _ _ _ h => h) (by rfl) hS ?_ ?_; rotate_left; (focus (intro w hSw; (try dsimp only at hSw); (have f2 := hjb; have f3 := hjI; have f5 := hjLI; have f6 := hr8; have f7 := hwj; have f8 := htm; have f9 := hsh w; have f10 := hadd); go_simp; first | done | with_reducible rfl)); simp only [Act.put, List.setIfInBounds_toArray, List.set_cons_zero, List.set_cons_succ])
        (refine mv_val 8 (v := ?_) rfl (by kernel_rfl) (by kernel_rfl) (by kernel_rfl) (fun _ _ _ h => h) (by rfl) hS ?_ ?_; rotate_left; (focus (intro w hSw; (try dsimp only at hSw); (have f2 := hjb; have f3 := hjI; have f5 := hjLI; have f6 := hr8; have f7 := hwj; have f8 := htm; have f9 := hsh w; have f10 := hadd); go_simp; first | done | with_reducible rfl)); simp only [Act.put, List.setIfInBounds_toArray, List.set_cons_zero, List.set_cons_succ])
        (refine mv_val 9 (v := ?_) rfl (by kernel_rfl) (by kernel_rfl) (by kernel_rfl) (fun _ _ _ h => h) (by rfl) hS ?_ ?_; rotate_left; (focus (intro w hSw; (try dsimp only at hSw); (have f2 := hjb; have f3 := hjI; have f5 := hjLI; have f6 := hr8; have f7 := hwj; have f8 := htm; have f9 := hsh w; have f10 := hadd); go_simp; first | done | with_reducible rfl)); simp only [Act.put, List.setIfInBounds_toArray, List.set_cons_zero, List.set_cons_succ])
        (refine mv_val 10 (v := ?_) rfl (by kernel_rfl) (by kernel_rfl) (by kernel_rfl) (fun _ _ _ h => h) (by rfl) hS ?_ ?_; rotate_left; (focus (intro w hSw; (try dsimp only at hSw); (have f2 := hjb; have f3 := hjI; have f5 := hjLI; have f6 := hr8; have f7 := hwj; have f8 := htm; have f9 := hsh w; have f10 := hadd); go_simp; first | done | with_reducible rfl)); simp only [Act.put, List.setIfInBounds_toArray, List.set_cons_zero, List.set_cons_succ])
        refine mv_step 7 rfl (by kernel_rfl) (by rfl) (fun K hK => ?_)
        go_simp
        refine hK _ _ ?_ ?_ <;> clear hK K
        · trivial
        try simp only [Act.put, List.setIfInBounds_toArray, List.set_cons_zero, List.set_cons_succ]
        (refine mv_val 11 (v := ?_) rfl (by kernel_rfl) (by kernel_rfl) (by kernel_rfl) (fun _ _ _ h => h) (by rfl) hS ?_ ?_; rotate_left; (focus (intro w hSw; (try dsimp only at hSw); (have f2 := hjb; have f3 := hjI; have f5 := hjLI; have f6 := hr8; have f7 := hwj; have f8 := htm; have f9 := hsh w; have f10 := hadd); go_simp; first | done | with_reducible rfl)); simp only [Act.put, List.setIfInBounds_toArray, List.set_cons_zero, List.set_cons_succ])
        (refine mv_val 12 (v := ?_) rfl (by kernel_rfl) (by kernel_rfl) (by kernel_rfl) (fun _ _ _ h => h) (by rfl) hS ?_ ?_; rotate_left; (focus (intro w hSw; (try dsimp only at hSw); (have f2 := hjb; have f3 := hjI; have f5 := hjLI; have f6 := hr8; have f7 := hwj; have f8 := htm; have f9 := hsh w; have f10 := hadd); go_simp; first | done | with_reducible rfl)); simp only [Act.put, List.setIfInBounds_toArray, List.set_cons_zero, List.set_cons_succ])
        refine mv_step 13 rfl (by kernel_rfl) (by rfl) (fun K hK => ?_)
        go_simp
        refine hK _ _ ?_ ?_ <;> clear hK K
        · trivial
        try simp only [Act.put, List.setIfInBounds_toArray, List.set_cons_zero, List.set_cons_succ]
        refine wpAnyH_done (by kernel_rfl) ?_ _
        go_wp2_with fail
        go_roundw
        case rel =>
          refine ⟨k + 1, by omega, by go_num, ?_, ?_⟩
          · have hr0 : r = 0 := by omega
            exact own_byte hown3 hxa (by rw [hr0] at hxa ⊢; simp at hxa ⊢; omega) HNN2.out
          · exact (hb2.setCell (p := ⟨g, j, none⟩) hg1 _).drew
        case measure => simp [intOf]; omega
      case false =>
        go_wp2_with (at_builtin; refine wpList_app El_u8 rfl _ _ rfl (hown.alloc _) rfl rfl (by exact rd_one _ _ _ _ _ rfl (Nat.lt_add_one _)) rfl one_int (by unfold maxLen; omega) (by omega) (by have := hbel.size; simp; omega) ?_; intro v2 w2 hown2 hg2 _; have hb2 : Below w.heap.size w w2 := (hbel.alloc hbel.size _).trans (own_below (hown.alloc _) hg2 (by have := hbel.size; simp; omega)); have f1 := F1 w2 hb2; have hown3 := nbr_own hown2 (HN0.out hm8); obtain ⟨g, cap, rfl, hg1, hg3⟩ := own_some hown3 hpos)
        go_roundw
        case rel => exact ⟨k + 1, by omega, by go_num, by rw [HNV.out rfl]; exact hown3, hb2⟩
        case measure => simp [intOf]; omega
    · have hm8I : ((k : Int) % 8 == 0) = false := by simp; omega
      have hown3 : wr.ownsRow w.heap.size 5 1 _ _ _ := hown
      rw [← HN1.out hm8] at hown3
      obtain ⟨g, cap, rfl, hg1, hg2⟩ := own_some hown3 hpos
      have f1 := F1 wr hbel
      cases pk
      case true =>
        have HNN2 := Lib.hid (HNN.out rfl)
        clear hm8
        go_wp2_with fail
        have hget := HGET.out
        have hcell : wr.cell? ⟨g, j, none⟩ = some (.int .u8 (x : Int)) := by
          rw [hown3.cellAt j (by omega), List.getElem?_map, hget]
          simp [b8, toNat_toUInt8 hx256]
        have hfr : wr.frozen? ⟨g, j, none⟩ = false := hown3.frozenAt j
        clear hget
        refine ah_start 14 (fun w' => True) rfl (by kernel_rfl) trivial ?_ ; intro hS
        (refine mv_val 0 (v := ?_) rfl (by kernel_rfl) (by kernel_rfl) (by kernel_rfl) (fun _ _ _ h => h) (by rfl) hS ?_ ?_; rotate_left; (focus (intro w hSw; (try dsimp only at hSw); (have f2 := hjb; have f3 := hjI; have f5 := hjLI; have f6 := hr8; have f7 := hwj; have f8 := htm; have f9 := hsh w; have f10 := hadd); go_simp; first | done | with_reducible rfl)); simp only [Act.put, List.setIfInBounds_toArray, List.set_cons_zero, List.set_cons_succ])
        (refine mv_val 1 (v := ?_) rfl (by kernel_rfl) (by kernel_rfl) (by kernel_rfl) (fun _ _ _ h => h) (by rfl) hS ?_ ?_; rotate_left; (focus (intro w hSw; (try dsimp only at hSw); (have f2 := hjb; have f3 := hjI; have f5 := hjLI; have f6 := hr8; have f7 := hwj; have f8 := htm; have f9 := hsh w; have f10 := hadd); go_simp; first | done | with_reducible rfl)); simp only [Act.put, List.setIfInBounds_toArray, List.set_cons_zero, List.set_cons_succ])
        (refine mv_val 2 (v := ?_) rfl (by kernel_rfl) (by kernel_rfl) (by kernel_rfl) (fun _ _ _ h => h) (by rfl) hS ?_ ?_; rotate_left; (focus (intro w hSw; (try dsimp only at hSw); (have f2 := hjb; have f3 := hjI; have f5 := hjLI; have f6 := hr8; have f7 := hwj; have f8 := htm; have f9 := hsh w; have f10 := hadd); go_simp; first | done | with_reducible rfl)); simp only [Act.put, List.setIfInBounds_toArray, List.set_cons_zero, List.set_cons_succ])
        (refine mv_val 3 (v := ?_) rfl (by kernel_rfl) (by kernel_rfl) (by kernel_rfl) (fun _ _ _ h => h) (by rfl) hS ?_ ?_; rotate_left; (focus (intro w hSw; (try dsimp only at hSw); (have f2 := hjb; have f3 := hjI; have f5 := hjLI; have f6 := hr8; have f7 := hwj; have f8 := htm; have f9 := hsh w; have f10 := hadd); go_simp; first | done | with_reducible rfl)); simp only [Act.put, List.setIfInBounds_toArray, List.set_cons_zero, List.set_cons_succ])
        (refine mv_val 4 (v := ?_) rfl (by kernel_rfl) (by kernel_rfl) (by kernel_rfl) (fun _ _ _ h => h) (by rfl) hS ?_ ?_; rotate_left; (focus (intro w hSw; (try dsimp only at hSw); (have f2 := hjb; have f3 := hjI; have f5 := hjLI; have f6 := hr8; have f7 := hwj; have f8 := htm; have f9 := hsh w; have f10 := hadd); go_simp; first | done | with_reducible rfl)); simp only [Act.put, List.setIfInBounds_toArray, List.set_cons_zero, List.set_cons_succ])
        (refine mv_val 5 (v := ?_) rfl (by kernel_rfl) (by kernel_rfl) (by kernel_rfl) (fun _ _ _ h => h) (by rfl) hS ?_ ?_; rotate_left; (focus (intro w hSw; (try dsimp only at hSw); (have f2 := hjb; have f3 := hjI; have f5 := hjLI; have f6 := hr8; have f7 := hwj; have f8 := htm; have f9 := hsh w; have f10 := hadd); go_simp; first | done | with_reducible rfl)); simp only [Act.put, List.setIfInBounds_toArray, List.set_cons_zero, List.set_cons_succ])
        (refine mv_val 6 (v := ?_) rfl (by kernel_rfl) (by kernel_rfl) (by kernel_rfl) (fun _ _ _ h => h) (by rfl) hS ?_ ?_; rotate_left; (focus (intro w hSw; (try dsimp only at hSw); (have f2 := hjb; have f3 := hjI; have f5 := hjLI; have f6 := hr8; have f7 := hwj; have f8 := htm; have f9 := hsh w; have f10 := hadd); go_simp; first | done | with_reducible rfl)); simp only [Act.put, List.setIfInBounds_toArray, List.set_cons_zero, List.set_cons_succ])
        (refine mv_val 8 (v := ?_) rfl (by kernel_rfl) (by kernel_rfl) (by kernel_rfl) (fun _ _ _ h => h) (by rfl) hS ?_ ?_; rotate_left; (focus (intro w hSw; (try dsimp only at hSw); (have f2 := hjb; have f3 := hjI; have f5 := hjLI; have f6 := hr8; have f7 := hwj; have f8 := htm; have f9 := hsh w; have f10 := hadd); go_simp; first | done | with_reducible rfl)); simp only [Act.put, List.setIfInBounds_toArray, List.set_cons_zero, List.set_cons_succ])
        (refine mv_val 9 (v := ?_) rfl (by kernel_rfl) (by kernel_rfl) (by kernel_rfl) (fun _ _ _ h => h) (by rfl) hS ?_ ?_; rotate_left; (focus (intro w hSw; (try dsimp only at hSw); (have f2 := hjb; have f3 := hjI; have f5 := hjLI; have f6 := hr8; have f7 := hwj; have f8 := htm; have f9 := hsh w; have f10 := hadd); go_simp; first | done | with_reducible rfl)); simp only [Act.put, List.setIfInBounds_toArray, List.set_cons_zero, List.set_cons_succ])
        (refine mv_val 10 (v := ?_) rfl (by kernel_rfl) (by kernel_rfl) (by kernel_rfl) (fun _ _ _ h => h) (by rfl) hS ?_ ?_; rotate_left; (focus (intro w hSw; (try dsimp only at hSw); (have f2 := hjb; have f3 := hjI; have f5 := hjLI; have f6 := hr8; have f7 := hwj; have f8 := htm; have f9 := hsh w; have f10 := hadd); go_simp; first | done | with_reducible rfl)); simp only [Act.put, List.setIfInBounds_toArray, List.set_cons_zero, List.set_cons_succ])
        refine mv_step 7 rfl (by kernel_rfl) (by rfl) (fun K hK => ?_)
        go_simp
        refine hK _ _ ?_ ?_ <;> clear hK K
        · trivial
        try simp only [Act.put, List.setIfInBounds_toArray, List.set_cons_zero, List.set_cons_succ]
        (refine mv_val 11 (v := ?_) rfl (by kernel_rfl) (by kernel_rfl) (by kernel_rfl) (fun _ _ _ h => h) (by rfl) hS ?_ ?_; rotate_left; (focus (intro w hSw; (try dsimp only at hSw); (have f2 := hjb; have f3 := hjI; have f5 := hjLI; have f6 := hr8; have f7 := hwj; have f8 := htm; have f9 := hsh w; have f10 := hadd); go_simp; first | done | with_reducible rfl)); simp only [Act.put, List.setIfInBounds_toArray, List.set_cons_zero, List.set_cons_succ])
        (refine mv_val 12 (v := ?_) rfl (by kernel_rfl) (by kernel_rfl) (by kernel_rfl) (fun _ _ _ h => h) (by rfl) hS ?_ ?_; rotate_left; (focus (intro w hSw; (try dsimp only at hSw); (have f2 := hjb; have f3 := hjI; have f5 := hjLI; have f6 := hr8; have f7 := hwj; have f8 := htm; have f9 := hsh w; have f10 := hadd); go_simp; first | done | with_reducible rfl)); simp only [Act.put, List.setIfInBounds_toArray, List.set_cons_zero, List.set_cons_succ])
        refine mv_step 13 rfl (by kernel_rfl) (by rfl) (fun K hK => ?_)
        go_simp
        refine hK _ _ ?_ ?_ <;> clear hK K
        · trivial
        try simp only [Act.put, List.setIfInBounds_toArray, List.set_cons_zero, List.set_cons_succ]
        refine wpAnyH_done (by kernel_rfl) ?_ _
        go_wp2_with fail
        go_roundw
        case rel =>
          refine ⟨k + 1, by omega, by go_num, ?_, ?_⟩
          · exact own_byte hown3 hxa (by rw [← hr]; exact z_eq x r hxa) HNN2.out
          · exact (hbel.setCell (p := ⟨g, j, none⟩) hg1 _).drew
        case measure => simp [intOf]; omega
      case false =>
        go_wp2_with fail
        go_roundw
        case rel => exact ⟨k + 1, by omega, by go_num, by rw [HNV.out rfl]; exact hown3, hbel⟩
        case measure => simp [intOf]; omega
end Go.Proofs.Ytiijnfakphhbeaa

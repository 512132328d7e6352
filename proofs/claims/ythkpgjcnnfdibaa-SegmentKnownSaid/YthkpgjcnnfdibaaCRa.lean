/- Joined texts: see the remark ahead of each part. No condition but those that the parts name. -/
import Derived.Test.YthkpgjcnnfdibaaCoE
import Derived.Test.YthkpgjcnnfdibaaCoL
import Derived.Test.YthkpgjcnnfdibaaCoD
import Derived.Test.YthkpgjcnnfdibaaJnt
/-! The walks of the reference's Column and Bits (layer 6). No condition but sizes. -/
namespace Go.Proofs.Ythkpgjcnnfdibaa
open Go.RowKit Go.Maps
set_option linter.unusedVariables false
set_option linter.unusedSimpArgs false

set_option maxHeartbeats 4000000 in
set_option maxRecDepth 100000 in
theorem rColumn_any (B : Nat) (A : Option Addr) (c : Nat) (t : UInt8) (l : List V) (w : World) (hl : Rd w B A (vcells l)) (hB : B ≤ w.heap.size) (hll : l.length ≤ 4294967296) (hok : ∀ v ∈ l, v.k < 256) :
    Calls Try.prog 92 #[b8 t, .slice A l.length c] w fun e w' => e = .returned (.bool (colok t l)) ∧ Below w.heap.size w w' := by
  have ht256 := t.toNat_lt
  obtain ⟨n, hn⟩ : ∃ n, n = l.length := ⟨_, rfl⟩
  have hco : colok t l = (tyok t && (decide (n ≤ 65536) && l.all (rmay t))) := by unfold colok; rw [hn]
  have HCO := Lib.hid hco
  have HN := Lib.hid hn
  have HOK := Lib.hid hok
  rw [← hn] at hll ⊢
  clear hco hn hok
  by_cases h1 : t.toNat < 1
  · have hE : colok t l = false := by
      have : tyok t = false := by unfold tyok; simp; omega
      rw [HCO.out, this]; rfl
    have hI : decide ((t.toNat : Int) < 1) = true := decide_eq_true (by omega)
    have HE := Lib.hid hE
    clear hE h1
    go_enter Try.func92, Try.ntmps92
    go_wp2_with fail
    go_ret
    exact ⟨by rw [HE.out]; rfl, Below.refl _ _⟩
  have hI1 : decide ((t.toNat : Int) < 1) = false := decide_eq_false (by omega)
  by_cases h3 : 3 < t.toNat
  · have hE : colok t l = false := by
      have : tyok t = false := by unfold tyok; simp; omega
      rw [HCO.out, this]; rfl
    have hI : decide ((3 : Int) < (t.toNat : Int)) = true := decide_eq_true (by omega)
    have HE := Lib.hid hE
    clear hE h3 h1
    go_enter Try.func92, Try.ntmps92
    go_wp2_with fail
    go_ret
    exact ⟨by rw [HE.out]; rfl, Below.refl _ _⟩
  have hI3 : decide ((3 : Int) < (t.toNat : Int)) = false := decide_eq_false (by omega)
  have hty : tyok t = true := by unfold tyok; simp; omega
  by_cases h6 : 65536 < n
  · have hE : colok t l = false := by
      rw [HCO.out, hty, show decide (n ≤ 65536) = false from decide_eq_false (by omega)]; rfl
    have hI : decide ((65536 : Int) < (n : Int)) = true := decide_eq_true (by omega)
    have HE := Lib.hid hE
    clear hE h3 h1 hty
    go_enter Try.func92, Try.ntmps92
    go_wp2_with fail
    go_ret
    exact ⟨by rw [HE.out]; rfl, Below.refl _ _⟩
  have hI6 : decide ((65536 : Int) < (n : Int)) = false := decide_eq_false (by omega)
  have hall : colok t l = l.all (rmay t) := by rw [HCO.out, hty, show decide (n ≤ 65536) = true from decide_eq_true (by omega)]; rfl
  have HALL := Lib.hid hall
  have H13 : Hid (1 ≤ t.toNat ∧ t.toNat ≤ 3) := Lib.hid ⟨by omega, by omega⟩
  clear hall hty h1 h3 HCO
  go_enter Try.func92, Try.ntmps92
  go_wp2_with fail
  go_loopw [5] (fun v5 wr => ∃ k : Nat, k ≤ n ∧ v5 = .int .i64 k ∧ (∀ y ∈ l.take k, rmay t y = true) ∧ Below w.heap.size w wr) (fun v5 _ => n - (intOf v5).toNat)
  case atStart => exact ⟨0, by omega, rfl, by simp, Below.refl _ _⟩
  case round =>
    obtain ⟨k, hk, rfl, hyes, hbel⟩ := hrel
    have HY := Lib.hid hyes
    clear hyes
    by_cases hlt : k < n
    case neg =>
      have hkn : k = n := by omega
      have hE : colok t l = true := by
        rw [HALL.out]
        refine all_yes (fun y hy => HY.out y ?_)
        rw [hkn, HN.out]; exact hy
      have HE := Lib.hid hE
      have hge : (n : Int) ≤ (k : Int) := by omega
      clear hkn hE
      go_wp2_with fail
      go_ret
      exact ⟨by rw [HE.out]; rfl, hbel⟩
    obtain ⟨v, hv⟩ : ∃ v, l[k]? = some v := ⟨_, List.getElem?_eq_getElem (by rw [← HN.out]; exact hlt)⟩
    obtain ⟨gb, go, rfl, hgb, q0, q1, q2⟩ := rd_val hl hv
    have r0 := (hbel.cell (p := ⟨gb, go + k * 3, none⟩) (by show gb < _; omega)).trans q0
    have r1 := (hbel.cell (p := ⟨gb, go + k * 3 + 1, none⟩) (by show gb < _; omega)).trans q1
    have r2 := (hbel.cell (p := ⟨gb, go + k * 3 + 2, none⟩) (by show gb < _; omega)).trans q2
    have hkI : (k : Int) < (n : Int) := by omega
    have hvk := HOK.out v (List.mem_of_getElem? hv)
    have M0 := fun w => May_any v hvk w
    have HV := Lib.hid hv
    have hrm : rmay t v = (mayB v && (decide (v.k = 0) || decide (v.k = t.toNat))) := rfl
    obtain ⟨mv, hmv⟩ : ∃ m, m = mayB v := ⟨_, rfl⟩
    rw [← hmv] at M0 hrm
    have HM := Lib.hid M0
    have HRM := Lib.hid hrm
    clear q0 q1 q2 hv M0 hmv hrm
    cases mv
    case false =>
      have hE : colok t l = false := by rw [HALL.out]; exact all_no HV.out (by rw [HRM.out]; rfl)
      have HE := Lib.hid hE
      clear hE
      go_wp2_with fail
      refine (HM.out _).mono ?_; rintro e w4 ⟨rfl, hb4⟩
      go_wp2_with fail
      go_ret
      exact ⟨by rw [HE.out]; rfl, hbel.trans (hb4.mono hbel.size)⟩
    by_cases h0 : v.k = 0
    · have hB0 : ((v.k : Int) != 0) = false := by simp; omega
      have hr : rmay t v = true := by rw [HRM.out]; simp [h0]
      have HR := Lib.hid hr
      clear hr h0
      go_wp2_with fail
      refine (HM.out _).mono ?_; rintro e w4 ⟨rfl, hb4⟩
      have s0 := cell_be r0 hb4 (cell_lt r0)
      have hb04 : Below w.heap.size w w4 := hbel.trans (hb4.mono hbel.size)
      go_wp2_with fail
      go_roundw
      case rel => exact ⟨k + 1, by omega, by go_num, all_more HY.out HV.out HR.out, hb04⟩
      case measure => simp [intOf]; omega
    have hB0 : ((v.k : Int) != 0) = true := by simp; omega
    by_cases he : v.k = t.toNat
    · have hBe : ((v.k : Int) != (t.toNat : Int)) = false := by simp; omega
      have hr : rmay t v = true := by rw [HRM.out]; simp [he]
      have HR := Lib.hid hr
      clear hr he h0
      go_wp2_with fail
      refine (HM.out _).mono ?_; rintro e w4 ⟨rfl, hb4⟩
      have s0 := cell_be r0 hb4 (cell_lt r0)
      have hb04 : Below w.heap.size w w4 := hbel.trans (hb4.mono hbel.size)
      go_wp2_with fail
      go_roundw
      case rel => exact ⟨k + 1, by omega, by go_num, all_more HY.out HV.out HR.out, hb04⟩
      case measure => simp [intOf]; omega
    · have hBe : ((v.k : Int) != (t.toNat : Int)) = true := by simp; omega
      have hE : colok t l = false := by rw [HALL.out]; exact all_no HV.out (by rw [HRM.out]; simp [h0, he])
      have HE := Lib.hid hE
      clear hE he h0
      go_wp2_with fail
      refine (HM.out _).mono ?_; rintro e w4 ⟨rfl, hb4⟩
      have s0 := cell_be r0 hb4 (cell_lt r0)
      go_wp2_with fail
      go_ret
      exact ⟨by rw [HE.out]; rfl, hbel.trans (hb4.mono hbel.size)⟩

/-! ### bits -/
def nbq (p : Nat → Bool) (k : Nat) : List UInt8 := bitsTo (size8 k) p k
def nbr (p : Nat → Bool) (k : Nat) : List UInt8 := bitsTo (size8 (k + 1)) p k
theorem nbq_len (p : Nat → Bool) (k : Nat) : (nbq p k).length = size8 k := bitsTo_len _ _ _
theorem nbr_len (p : Nat → Bool) (k : Nat) : (nbr p k).length = size8 (k + 1) := bitsTo_len _ _ _
theorem layP_more (m : Nat) (p : Nat → Bool) : layP (m + 1) p = layP m p ++ [(byteP p m).toUInt8] := by
  unfold layP; rw [List.range_succ, List.map_append]; rfl
theorem nbr_0 {p : Nat → Bool} {k : Nat} (h : k % 8 = 0) : nbr p k = nbq p k ++ [0] := by
  have e : size8 (k + 1) = size8 k + 1 := by unfold size8; omega
  have e2 : size8 k = k / 8 := by unfold size8; omega
  unfold nbr nbq bitsTo
  rw [e, layP_more]
  congr 2
  have : byteP (fun i => decide (i < k) && p i) (size8 k) = byteP (fun _ => false) (size8 k) := byteP_congr fun r hr => by
    have : ¬ (8 * size8 k + r < k) := by omega
    simp [this]
  rw [this]
  simp [byteP, bw]
theorem nbr_n0 {p : Nat → Bool} {k : Nat} (h : k % 8 ≠ 0) : nbr p k = nbq p k := by
  have e : size8 (k + 1) = size8 k := by unfold size8; omega
  unfold nbr nbq
  rw [e]
theorem nbr_own {w : World} {base : Nat} {v : Value} {a bs : List UInt8} (h : w.ownsRow base 5 1 v (a.length + 1) (cells a ++ [.int .u8 0])) (hb : bs = a ++ [0]) : w.ownsRow base 5 1 v bs.length (cells bs) := by
  rw [hb, cells_append, List.length_append]; exact h
def blF (l : List Bool) (i : Nat) : Bool := l.getD i false
set_option maxHeartbeats 4000000 in
set_option maxRecDepth 100000 in
theorem rBits_any (B : Nat) (A : Option Addr) (c : Nat) (l : List Bool) (w : World) (hl : Rd w B A (bools l)) (hB : B ≤ w.heap.size) (hll : l.length ≤ 4294967296) :
    Calls Try.prog 93 #[.slice A l.length c] w (RetB w (bitsN l.length (blF l))) := by
  obtain ⟨n, hn⟩ : ∃ n, n = l.length := ⟨_, rfl⟩
  have HN := Lib.hid hn
  rw [← hn] at hll ⊢
  clear hn
  obtain ⟨p, hp⟩ : ∃ p, p = blF l := ⟨_, rfl⟩
  have HP := Lib.hid hp
  rw [← hp]
  clear hp
  go_enter Try.func93, Try.ntmps93
  go_wp2_with fail
  go_loopw [3, 4] (fun v3 v4 wr => ∃ k : Nat, k ≤ n ∧ v4 = .int .i64 k ∧ wr.ownsRow w.heap.size 5 1 v3 (nbq p k).length (cells (nbq p k)) ∧ Below w.heap.size w wr) (fun _ v4 _ => n - (intOf v4).toNat)
  case atStart => exact ⟨0, by omega, rfl, World.ownsRow_nil _ _ _ _, Below.refl _ _⟩
  case round =>
    obtain ⟨k, hk, rfl, hown, hbel⟩ := hrel
    by_cases hlt : k < n
    case neg =>
      have hkn : k = n := by omega
      have hge : (n : Int) ≤ (k : Int) := by omega
      have hE : nbq p k = bitsN n p := by rw [hkn]; rfl
      rw [hE] at hown
      clear hkn hE
      go_wp2_with fail
      go_ret
      exact retB_of hown hbel
    have hkI : (k : Int) < (n : Int) := by omega
    obtain ⟨gb, go, rfl, hgb, hcl⟩ := hl.at (k := k) (by rw [List.length_map, ← HN.out]; exact hlt)
    have hck := hcl k (.bool (p k)) (by rw [List.getElem?_map, List.getElem?_eq_getElem (by rw [← HN.out]; exact hlt), HP.out]; unfold blF; rw [List.getD_eq_getElem?_getD, List.getElem?_eq_getElem (by rw [← HN.out]; exact hlt)]; rfl)
    have F1 : ∀ w', Below w.heap.size w w' → w'.cell? ⟨gb, go + k, none⟩ = some (.bool (p k)) := fun w' hb => (hb.cell (p := ⟨gb, go + k, none⟩) (by show gb < _; omega)).trans hck
    have hl1 := nbq_len p k
    have hl2 : size8 k ≤ 4294967296 := by unfold size8; omega
    have hpos : 0 < (nbr p k).length := by rw [nbr_len]; unfold size8; omega
    have hlm : (nbr p k).length ≤ 4294967296 := by rw [nbr_len]; unfold size8; omega
    have hk8 : k < 8 * size8 (k + 1) := by unfold size8; omega
    have hget : (nbr p k)[k / 8]? = some (byteTo p k).toUInt8 := bitsTo_get p hk8
    have hadd := @byteTo_add p k
    have hNV : p k = false → nbq p (k + 1) = nbr p k := fun h => bitsTo_no h
    have hNN : p k = true → nbq p (k + 1) = (nbr p k).set (k / 8) (byteTo p k + 2 ^ (k % 8)).toUInt8 := fun h => by rw [hadd.1]; exact bitsTo_yes h hk8
    obtain ⟨x, hx⟩ : ∃ x, x = byteTo p k := ⟨_, rfl⟩
    have hx256 : x < 256 := by rw [hx]; exact byteTo_lt _ _
    rw [← hx] at hget hadd hNN
    have hxa := hadd.2
    obtain ⟨j, hj⟩ : ∃ j, j = k / 8 := ⟨_, rfl⟩
    obtain ⟨r, hr⟩ : ∃ r, r = k % 8 := ⟨_, rfl⟩
    have hjI : (k : Int) / 8 = (j : Int) := by omega
    have hr8 : r < 8 := by omega
    have htm : (k : Int).tmod 8 = (r : Int) := by rw [Int.tmod_eq_emod_of_nonneg (by omega)]; omega
    have hjb : j < (nbr p k).length := by rw [nbr_len]; unfold size8; omega
    have hwj : IntKind.i64.wrap (j : Int) = (j : Int) := by rw [IntKind.wrap_i64]; omega
    have hsh := fun w => shl8 r hr8 w
    rw [← hj] at hget hNN
    rw [← hr] at hxa hNN
    have hadd := add8 x (2 ^ r) hxa
    have hN0 : k % 8 = 0 → nbr p k = nbq p k ++ [0] := nbr_0
    have hN1 : k % 8 ≠ 0 → nbr p k = nbq p k := nbr_n0
    obtain ⟨bs, hbs⟩ : ∃ bs, bs = nbr p k := ⟨_, rfl⟩
    obtain ⟨pk, hpk⟩ : ∃ x, x = p k := ⟨_, rfl⟩
    rw [← hpk] at F1 hNV hNN
    rw [← hbs] at hpos hlm hget hjb hNV hNN hN0 hN1
    have hjLI : (j : Int) < (bs.length : Int) := by omega
    have HGET := Lib.hid hget
    have HNV := Lib.hid hNV
    have HNN := Lib.hid hNN
    have HN0 := Lib.hid hN0
    have HN1 := Lib.hid hN1
    have HX := Lib.hid hx
    clear hcl hck hx hj hget hNV hNN hN0 hN1 hbs hpk
    by_cases hm8 : k % 8 = 0
    · have hm8I : ((k : Int) % 8 == 0) = true := by simp; omega
      cases pk
      case true =>
        have HNN2 := Lib.hid (HNN.out rfl)
        go_wp2_with (at_builtin; refine wpList_app El_u8 rfl _ _ rfl (hown.alloc _) rfl rfl (by exact rd_one _ _ _ _ _ rfl (Nat.lt_add_one _)) rfl one_int (by unfold maxLen; omega) (by omega) (by have := hbel.size; simp; omega) ?_; intro v2 w2 hown2 hg2 _; have hb2 : Below w.heap.size w w2 := (hbel.alloc hbel.size _).trans (own_below (hown.alloc _) hg2 (by have := hbel.size; simp; omega)); have f1 := F1 w2 hb2; have hown3 := nbr_own hown2 (HN0.out hm8); obtain ⟨g, cap, rfl, hg1, hg3⟩ := own_some hown3 hpos)
        have hget := HGET.out
        have hcell : w2.cell? ⟨g, j, none⟩ = some (.int .u8 (x : Int)) := by
          rw [hown3.cellAt j (by omega), List.getElem?_map, hget]
          simp [b8, toNat_toUInt8 hx256]
        have hfr : w2.frozen? ⟨g, j, none⟩ = false := hown3.frozenAt j
        clear hget
        refine ah_start 14 (fun w' => True) rfl (by kernel_rfl) trivial ?_ ; intro hS
        (refine mv_val 0 (v := ?_) rfl (by kernel_rfl) (by kernel_rfl) (by kernel_rfl) (fun _ _ _ h => h) (by rfl) hS ?_ ?_; rotate_left; (focus (intro w hSw; (try dsimp only at hSw); (have f2 := hjb; have f3 := hjI; have f5 := hjLI; have f6 := hr8; have f7 := hwj; have f8 := htm; have f9 := hsh w; have f10 := hadd); go_simp; first | done | with_reducible rfl)); simp only [Act.put, List.setIfInBounds_toArray, List.set_cons_zero, List.set_cons_succ])
        (refine mv_val 1 (v := ?_) rfl (by kernel_rfl) (by kernel_rfl) (by kernel_rfl) (fun _ _ _ h => h) (by rfl) hS ?_ ?_; rotate_left; (focus (intro w hSw; (try dsimp only at hSw); (have f2 := hjb; have f3 := hjI; have f5 := hjLI; have f6 := hr8; have f7 := hwj; have f8 := htm; have f9 := hsh w; have f10 := hadd); go_simp; first | done | with_reducible rfl)); simp only [Act.put, List.setIfInBounds_toArray, List.set_cons_zero, List.set_cons_succ])
        (refine mv_val 2 (v := ?_) rfl (by kernel_rfl) (by kernel_rfl) (by kernel_rfl) (fun _ _ _ h => h) (by rfl) hS ?_ ?_; rotate_left; (focus (intro w hSw; (try dsimp only at hSw); (have f2 := hjb; have f3 := hjI; have f5 := hjLI; have f6 := hr8; have f7 := hwj; have f8 := htm; have f9 := hsh w; have f10 := hadd); go_simp; first | done | with_reducible rfl)); simp only [Act.put, List.setIfInBounds_toArray, List.set_cons_zero, List.set_cons_succ])
        (refine mv_val 3 (v := ?_) rfl (by kernel_rfl) (by kernel_rfl) (by kernel_rfl) (fun _ _ _ h => h) (by rfl) hS ?_ ?_; rotate_left; (focus (intro w hSw; (try dsimp only at hSw); (have f2 := hjb; have f3 := hjI; have f5 := hjLI; have f6 := hr8; have f7 := hwj; have f8 := htm; have f9 := hsh w; have f10 := hadd); go_simp; first | done | with_reducible rfl)); simp only [Act.put, List.setIfInBounds_toArray, List.set_cons_zero, List.set_cons_succ])
        (refine mv_val 4 (v := ?_) rfl (by kernel_rfl) (by kernel_rfl) (by kernel_rfl) (fun _ _ _ h => h) (by rfl) hS ?_ ?_; rotate_left; (focus (intro w hSw; (try dsimp only at hSw); (have f2 := hjb; have f3 := hjI; have f5 := hjLI; have f6 := hr8; have f7 := hwj; have f8 := htm; have f9 := hsh w; have f10 := hadd); go_simp; first | done | with_reducible rfl)); simp only [Act.put, List.setIfInBounds_toArray, List.set_cons_zero, List.set_cons_succ])
        (refine mv_val 5 (v := ?_) rfl (by kernel_rfl) (by kernel_rfl) (by kernel_rfl) (fun _ _ _ h => h) (by rfl) hS ?_ ?_; rotate_left; (focus (intro w hSw; (try dsimp only at hSw); (have f2 := hjb; have f3 := hjI; have f5 := hjLI; have f6 := hr8; have f7 := hwj; have f8 := htm; have f9 := hsh w; have f10 := hadd); go_simp; first | done | with_reducible rfl)); simp only [Act.put, List.setIfInBounds_toArray, List.set_cons_zero, List.set_cons_succ])
        (refine mv_val 6 (v := ?_) rfl (by kernel_rfl) (by kernel_rfl) (by kernel_rfl) (fun _ _ _ h => h) (by rfl) hS ?_ ?_; rotate_left; (focus (intro w hSw; (try dsimp only at hSw); (have f2 := hjb; have f3 := hjI; have f5 := hjLI; have f6 := hr8; have f7 := hwj; have f8 := htm; have f9 := hsh w; have f10 := hadd); go_simp; first | done | with_reducible rfl)); simp only [Act.put, List.setIfInBounds_toArray, List.set_cons_zero, List.set_cons_succ])
        (refine mv_val 8 (v := ?_) rfl (by kernel_rfl) (by kernel_rfl) (by kernel_rfl) (fun _ _ _ h => h) (by rfl) hS ?_ ?_; rotate_left; (focus (intro w hSw; (try dsimp only at hSw); (have f2 := hjb; have f3 := hjI; have f5 := hjLI; have f6 := hr8; have f7 := hwj; have f8 := htm; have f9 := hsh w; have f10 := hadd); go_simp; first | done | with_reducible rfl)); simp only [Act.put, List.setIfInBounds_toArray, List.set_cons_zero, List.set_cons_succ])
        (refine mv_val 9 (v := ?_) rfl (by kernel_rfl) (by kernel_rfl) (by kernel_rfl) (fun _ _ _ h => h) (by rfl) hS ?_ ?_; rotate_left; (focus (intro w hSw; (try dsimp only at hSw); (have f2 := hjb; have f3 := hjI; have f5 := hjLI; have f6 := hr8; have f7 := hwj; have f8 := htm; have f9 := hsh w; have f10 := hadd); go_simp; first | done | with_reducible rfl)); simp only [Act.put, List.setIfInBounds_toArray, List.set_cons_zero, List.set_cons_succ])
        (refine mv_val 10 (v := ?_) rfl (by kernel_rfl) (by kernel_rfl) (by kernel_rfl) (fun _ _ _ h => h) (by rfl) hS ?_ ?_; rotate_left; (focus (intro w hSw; (try dsimp only at hSw); (have f2 := hjb; have f3 := hjI; have f5 := hjLI; have f6 := hr8; have f7 := hwj; have f8 := htm; have f9 := hsh w; have f10 := hadd); go_simp; first | done | with_reducible rfl)); simp only [Act.put, List.setIfInBounds_toArray, List.set_cons_zero, List.set_cons_succ])
        refine mv_step 7 rfl (by kernel_rfl) (by rfl) (fun K hK => ?_)
        go_simp
        refine hK _ _ ?_ ?_ <;> clear hK K
        · trivial
        try simp only [Act.put, List.setIfInBounds_toArray, List.set_cons_zero, List.set_cons_succ]
        (refine mv_val 11 (v := ?_) rfl (by kernel_rfl) (by kernel_rfl) (by kernel_rfl) (fun _ _ _ h => h) (by rfl) hS ?_ ?_; rotate_left; (focus (intro w hSw; (try dsimp only at hSw); (have f2 := hjb; have f3 := hjI; have f5 := hjLI; have f6 := hr8; have f7 := hwj; have f8 := htm; have f9 := hsh w; have f10 := hadd); go_simp; first | done | with_reducible rfl)); simp only [Act.put, List.setIfInBounds_toArray, List.set_cons_zero, List.set_cons_succ])
        (refine mv_val 12 (v := ?_) rfl (by kernel_rfl) (by kernel_rfl) (by kernel_rfl) (fun _ _ _ h => h) (by rfl) hS ?_ ?_; rotate_left; (focus (intro w hSw; (try dsimp only at hSw); (have f2 := hjb; have f3 := hjI; have f5 := hjLI; have f6 := hr8; have f7 := hwj; have f8 := htm; have f9 := hsh w; have f10 := hadd); go_simp; first | done | with_reducible rfl)); simp only [Act.put, List.setIfInBounds_toArray, List.set_cons_zero, List.set_cons_succ])
        refine mv_step 13 rfl (by kernel_rfl) (by rfl) (fun K hK => ?_)
        go_simp
        refine hK _ _ ?_ ?_ <;> clear hK K
        · trivial
        try simp only [Act.put, List.setIfInBounds_toArray, List.set_cons_zero, List.set_cons_succ]
        refine wpAnyH_done (by kernel_rfl) ?_ _
        go_wp2_with fail
        go_roundw
        case rel =>
          refine ⟨k + 1, by omega, by go_num, ?_, ?_⟩
          · have hr0 : r = 0 := by omega
            exact own_byte hown3 hxa (by rw [hr0] at hxa ⊢; simp at hxa ⊢; omega) HNN2.out
          · exact (hb2.setCell (p := ⟨g, j, none⟩) hg1 _).drew
        case measure => simp [intOf]; omega
      case false =>
        go_wp2_with (at_builtin; refine wpList_app El_u8 rfl _ _ rfl (hown.alloc _) rfl rfl (by exact rd_one _ _ _ _ _ rfl (Nat.lt_add_one _)) rfl one_int (by unfold maxLen; omega) (by omega) (by have := hbel.size; simp; omega) ?_; intro v2 w2 hown2 hg2 _; have hb2 : Below w.heap.size w w2 := (hbel.alloc hbel.size _).trans (own_below (hown.alloc _) hg2 (by have := hbel.size; simp; omega)); have f1 := F1 w2 hb2; have hown3 := nbr_own hown2 (HN0.out hm8); obtain ⟨g, cap, rfl, hg1, hg3⟩ := own_some hown3 hpos)
        go_roundw
        case rel => exact ⟨k + 1, by omega, by go_num, by rw [HNV.out rfl]; exact hown3, hb2⟩
        case measure => simp [intOf]; omega
    · have hm8I : ((k : Int) % 8 == 0) = false := by simp; omega
      have hown3 : wr.ownsRow w.heap.size 5 1 _ _ _ := hown
      rw [← HN1.out hm8] at hown3
      obtain ⟨g, cap, rfl, hg1, hg2⟩ := own_some hown3 hpos
      have f1 := F1 wr hbel
      cases pk
      case true =>
        have HNN2 := Lib.hid (HNN.out rfl)
        clear hm8
        go_wp2_with fail
        have hget := HGET.out
        have hcell : wr.cell? ⟨g, j, none⟩ = some (.int .u8 (x : Int)) := by
          rw [hown3.cellAt j (by omega), List.getElem?_map, hget]
          simp [b8, toNat_toUInt8 hx256]
        have hfr : wr.frozen? ⟨g, j, none⟩ = false := hown3.frozenAt j
        clear hget
        refine ah_start 14 (fun w' => True) rfl (by kernel_rfl) trivial ?_ ; intro hS
        (refine mv_val 0 (v := ?_) rfl (by kernel_rfl) (by kernel_rfl) (by kernel_rfl) (fun _ _ _ h => h) (by rfl) hS ?_ ?_; rotate_left; (focus (intro w hSw; (try dsimp only at hSw); (have f2 := hjb; have f3 := hjI; have f5 := hjLI; have f6 := hr8; have f7 := hwj; have f8 := htm; have f9 := hsh w; have f10 := hadd); go_simp; first | done | with_reducible rfl)); simp only [Act.put, List.setIfInBounds_toArray, List.set_cons_zero, List.set_cons_succ])
        (refine mv_val 1 (v := ?_) rfl (by kernel_rfl) (by kernel_rfl) (by kernel_rfl) (fun _ _ _ h => h) (by rfl) hS ?_ ?_; rotate_left; (focus (intro w hSw; (try dsimp only at hSw); (have f2 := hjb; have f3 := hjI; have f5 := hjLI; have f6 := hr8; have f7 := hwj; have f8 := htm; have f9 := hsh w; have f10 := hadd); go_simp; first | done | with_reducible rfl)); simp only [Act.put, List.setIfInBounds_toArray, List.set_cons_zero, List.set_cons_succ])
        (refine mv_val 2 (v := ?_) rfl (by kernel_rfl) (by kernel_rfl) (by kernel_rfl) (fun _ _ _ h => h) (by rfl) hS ?_ ?_; rotate_left; (focus (intro w hSw; (try dsimp only at hSw); (have f2 := hjb; have f3 := hjI; have f5 := hjLI; have f6 := hr8; have f7 := hwj; have f8 := htm; have f9 := hsh w; have f10 := hadd); go_simp; first | done | with_reducible rfl)); simp only [Act.put, List.setIfInBounds_toArray, List.set_cons_zero, List.set_cons_succ])
        (refine mv_val 3 (v := ?_) rfl (by kernel_rfl) (by kernel_rfl) (by kernel_rfl) (fun _ _ _ h => h) (by rfl) hS ?_ ?_; rotate_left; (focus (intro w hSw; (try dsimp only at hSw); (have f2 := hjb; have f3 := hjI; have f5 := hjLI; have f6 := hr8; have f7 := hwj; have f8 := htm; have f9 := hsh w; have f10 := hadd); go_simp; first | done | with_reducible rfl)); simp only [Act.put, List.setIfInBounds_toArray, List.set_cons_zero, List.set_cons_succ])
        (refine mv_val 4 (v := ?_) rfl (by kernel_rfl) (by kernel_rfl) (by kernel_rfl) (fun _ _ _ h => h) (by rfl) hS ?_ ?_; rotate_left; (focus (intro w hSw; (try dsimp only at hSw); (have f2 := hjb; have f3 := hjI; have f5 := hjLI; have f6 := hr8; have f7 := hwj; have f8 := htm; have f9 := hsh w; have f10 := hadd); go_simp; first | done | with_reducible rfl)); simp only [Act.put, List.setIfInBounds_toArray, List.set_cons_zero, List.set_cons_succ])
        (refine mv_val 5 (v := ?_) rfl (by kernel_rfl) (by kernel_rfl) (by kernel_rfl) (fun _ _ _ h => h) (by rfl) hS ?_ ?_; rotate_left; (focus (intro w hSw; (try dsimp only at hSw); (have f2 := hjb; have f3 := hjI; have f5 := hjLI; have f6 := hr8; have f7 := hwj; have f8 := htm; have f9 := hsh w; have f10 := hadd); go_simp; first | done | with_reducible rfl)); simp only [Act.put, List.setIfInBounds_toArray, List.set_cons_zero, List.set_cons_succ])
        (refine mv_val 6 (v := ?_) rfl (by kernel_rfl) (by kernel_rfl) (by kernel_rfl) (fun _ _ _ h => h) (by rfl) hS ?_ ?_; rotate_left; (focus (intro w hSw; (try dsimp only at hSw); (have f2 := hjb; have f3 := hjI; have f5 := hjLI; have f6 := hr8; have f7 := hwj; have f8 := htm; have f9 := hsh w; have f10 := hadd); go_simp; first | done | with_reducible rfl)); simp only [Act.put, List.setIfInBounds_toArray, List.set_cons_zero, List.set_cons_succ])
        (refine mv_val 8 (v := ?_) rfl (by kernel_rfl) (by kernel_rfl) (by kernel_rfl) (fun _ _ _ h => h) (by rfl) hS ?_ ?_; rotate_left; (focus (intro w hSw; (try dsimp only at hSw); (have f2 := hjb; have f3 := hjI; have f5 := hjLI; have f6 := hr8; have f7 := hwj; have f8 := htm; have f9 := hsh w; have f10 := hadd); go_simp; first | done | with_reducible rfl)); simp only [Act.put, List.setIfInBounds_toArray, List.set_cons_zero, List.set_cons_succ])
        (refine mv_val 9 (v := ?_) rfl (by kernel_rfl) (by kernel_rfl) (by kernel_rfl) (fun _ _ _ h => h) (by rfl) hS ?_ ?_; rotate_left; (focus (intro w hSw; (try dsimp only at hSw); (have f2 := hjb; have f3 := hjI; have f5 := hjLI; have f6 := hr8; have f7 := hwj; have f8 := htm; have f9 := hsh w; have f10 := hadd); go_simp; first | done | with_reducible rfl)); simp only [Act.put, List.setIfInBounds_toArray, List.set_cons_zero, List.set_cons_succ])
        (refine mv_val 10 (v := ?_) rfl (by kernel_rfl) (by kernel_rfl) (by kernel_rfl) (fun _ _ _ h => h) (by rfl) hS ?_ ?_; rotate_left; (focus (intro w hSw; (try dsimp only at hSw); (have f2 := hjb; have f3 := hjI; have f5 := hjLI; have f6 := hr8; have f7 := hwj; have f8 := htm; have f9 := hsh w; have f10 := hadd); go_simp; first | done | with_reducible rfl)); simp only [Act.put, List.setIfInBounds_toArray, List.set_cons_zero, List.set_cons_succ])
        refine mv_step 7 rfl (by kernel_rfl) (by rfl) (fun K hK => ?_)
        go_simp
        refine hK _ _ ?_ ?_ <;> clear hK K
        · trivial
        try simp only [Act.put, List.setIfInBounds_toArray, List.set_cons_zero, List.set_cons_succ]
        (refine mv_val 11 (v := ?_) rfl (by kernel_rfl) (by kernel_rfl) (by kernel_rfl) (fun _ _ _ h => h) (by rfl) hS ?_ ?_; rotate_left; (focus (intro w hSw; (try dsimp only at hSw); (have f2 := hjb; have f3 := hjI; have f5 := hjLI; have f6 := hr8; have f7 := hwj; have f8 := htm; have f9 := hsh w; have f10 := hadd); go_simp; first | done | with_reducible rfl)); simp only [Act.put, List.setIfInBounds_toArray, List.set_cons_zero, List.set_cons_succ])
        (refine mv_val 12 (v := ?_) rfl (by kernel_rfl) (by kernel_rfl) (by kernel_rfl) (fun _ _ _ h => h) (by rfl) hS ?_ ?_; rotate_left; (focus (intro w hSw; (try dsimp only at hSw); (have f2 := hjb; have f3 := hjI; have f5 := hjLI; have f6 := hr8; have f7 := hwj; have f8 := htm; have f9 := hsh w; have f10 := hadd); go_simp; first | done | with_reducible rfl)); simp only [Act.put, List.setIfInBounds_toArray, List.set_cons_zero, List.set_cons_succ])
        refine mv_step 13 rfl (by kernel_rfl) (by rfl) (fun K hK => ?_)
        go_simp
        refine hK _ _ ?_ ?_ <;> clear hK K
        · trivial
        try simp only [Act.put, List.setIfInBounds_toArray, List.set_cons_zero, List.set_cons_succ]
        refine wpAnyH_done (by kernel_rfl) ?_ _
        go_wp2_with fail
        go_roundw
        case rel =>
          refine ⟨k + 1, by omega, by go_num, ?_, ?_⟩
          · exact own_byte hown3 hxa (by rw [← hr]; exact z_eq x r hxa) HNN2.out
          · exact (hbel.setCell (p := ⟨g, j, none⟩) hg1 _).drew
        case measure => simp [intOf]; omega
      case false =>
        go_wp2_with fail
        go_roundw
        case rel => exact ⟨k + 1, by omega, by go_num, by rw [HNV.out rfl]; exact hown3, hbel⟩
        case measure => simp [intOf]; omega
end Go.Proofs.Ythkpgjcnnfdibaa

/-! The walks of the reference's Which, Words and texts (layer 6). For marks that are Texts; no other condition but sizes. -/
namespace Go.Proofs.Ythkpgjcnnfdibaa
open Go.RowKit Go.Maps
set_option linter.unusedVariables false
set_option linter.unusedSimpArgs false

abbrev strs (ws : List (List UInt8)) : List Value := ws.map txt
theorem strs_one (ws : List (List UInt8)) : ∀ u ∈ strs ws, u.oneCell' = true := by
  intro u hu
  obtain ⟨t, _, rfl⟩ := List.mem_map.1 hu
  rfl
theorem idx_first {ws : List (List UInt8)} {k : Nat} {s : List UInt8} (h : ws[k]? = some s) (hn : ∀ t ∈ ws.take k, t ≠ s) : ws.idxOf s = k := by
  have hk : k < ws.length := (List.getElem?_eq_some_iff.1 h).1
  have e : ws = ws.take k ++ ws.drop k := (List.take_append_drop k ws).symm
  have hd : ws.drop k = s :: ws.drop (k + 1) := by
    rw [List.getElem?_eq_getElem hk] at h
    rw [← Option.some.inj h]; exact List.drop_eq_getElem_cons hk
  rw [e, List.idxOf_append, if_neg (fun h => hn s h rfl), hd, List.idxOf_cons_self, List.length_take]; omega
set_option maxHeartbeats 1000000 in
set_option maxRecDepth 100000 in
theorem rWhich_any (B : Nat) (A : Option Addr) (c : Nat) (ws : List (List UInt8)) (s : List UInt8) (w : World) (hr : Rd w B A (strs ws)) (hll : ws.length ≤ 4294967296) :
    Calls Try.prog 111 #[.slice A ws.length c, txt s] w fun e w' => e = .returned (.int .i64 (ws.idxOf s : Nat)) ∧ w = w' := by
  obtain ⟨n, hn⟩ : ∃ n, n = ws.length := ⟨_, rfl⟩
  have HN := Lib.hid hn
  rw [← hn] at hll ⊢
  clear hn
  go_enter Try.func111, Try.ntmps111
  go_wp2_with fail
  go_loop [5] (fun v5 => ∃ k : Nat, k ≤ n ∧ v5 = .int .i64 k ∧ ∀ t ∈ ws.take k, t ≠ s) (fun v5 => n - (intOf v5).toNat)
  case atStart => exact ⟨0, by omega, rfl, by simp⟩
  case round =>
    obtain ⟨k, hk, rfl, hno⟩ := hrel
    have HNO := Lib.hid hno
    clear hno
    by_cases hlt : k < n
    case neg =>
      have hkn : k = n := by omega
      have hE : ws.idxOf s = k := by
        have h := HNO.out
        rw [hkn, HN.out, List.take_length] at h
        rw [List.idxOf_eq_length (fun hm => h s hm rfl), hkn, HN.out]
      have HE := Lib.hid hE
      have hge : decide ((k : Int) < (n : Int)) = false := decide_eq_false (by omega)
      clear hkn hE
      go_wp2_with fail
      go_ret
      exact ⟨by rw [HE.out]; rfl, rfl⟩
    obtain ⟨t, ht⟩ : ∃ t, ws[k]? = some t := ⟨_, List.getElem?_eq_getElem (by rw [← HN.out]; exact hlt)⟩
    obtain ⟨gb, go, rfl, hgb, hcl⟩ := hr.at (k := k) (by rw [List.length_map, ← HN.out]; exact hlt)
    have hck := hcl k (txt t) (by rw [List.getElem?_map, ht]; rfl)
    have hkI : (k : Int) < (n : Int) := by omega
    have hlt2 : decide ((k : Int) < (n : Int)) = true := decide_eq_true hkI
    have HT := Lib.hid ht
    clear hcl ht
    by_cases hts : t = s
    · subst hts
      have hE : ws.idxOf t = k := idx_first HT.out HNO.out
      have HE := Lib.hid hE
      clear hE
      go_wp2_with fail
      go_ret
      exact ⟨by rw [HE.out]; rfl, rfl⟩
    · have hts2 : (t == s) = false := by simpa using hts
      go_wp2_with fail
      go_round
      case rel =>
        refine ⟨k + 1, by omega, by go_num, fun u hu => ?_⟩
        rw [List.take_add_one, HT.out] at hu
        rcases List.mem_append.1 hu with h | h
        · exact HNO.out u h
        · simp at h; rw [h]; exact hts
      case measure => simp [intOf]; omega

/-- words in memory -/
def RetS (w : World) (ws : List (List UInt8)) (e : Ending) (w' : World) : Prop := ∃ A c, e = .returned (.slice A ws.length c) ∧ w'.ownsRow w.heap.size 9 1 (.slice A ws.length c) ws.length (strs ws) ∧ Below w.heap.size w w'
theorem retS_of {w w' : World} {ws : List (List UInt8)} {v : Value} (ho : w'.ownsRow w.heap.size 9 1 v ws.length (strs ws)) (hb : Below w.heap.size w w') : RetS w ws (.returned v) w' := by
  obtain ⟨A, c, rfl, _⟩ := own_form ho
  exact ⟨A, c, rfl, ho, hb⟩
set_option maxHeartbeats 2000000 in
set_option maxRecDepth 100000 in
theorem rWords_any (B : Nat) (A : Option Addr) (c : Nat) (l : List V) (w : World) (hl : Rd w B A (vcells l)) (hB : B ≤ w.heap.size) (hll : l.length ≤ 65536) (hk3 : ∀ v ∈ l, v.k = 3) :
    Calls Try.prog 110 #[.slice A l.length c] w (RetS w (words l)) := by
  obtain ⟨n, hn⟩ : ∃ n, n = l.length := ⟨_, rfl⟩
  have HN := Lib.hid hn
  have HK := Lib.hid hk3
  rw [← hn] at hll ⊢
  clear hn hk3
  go_enter Try.func110, Try.ntmps110
  go_wp2_with fail
  go_loopw [3, 4] (fun v3 v4 wr => ∃ (k : Nat) (ws : List (List UInt8)), k ≤ n ∧ v4 = .int .i64 k ∧ ws = words (l.take k) ∧ wr.ownsRow w.heap.size 9 1 v3 ws.length (strs ws) ∧ Below w.heap.size w wr) (fun _ v4 _ => n - (intOf v4).toNat)
  case atStart => exact ⟨0, [], by omega, rfl, rfl, World.ownsRow_nil _ _ _ _, Below.refl _ _⟩
  case round =>
    obtain ⟨k, ws, hk, rfl, hws, hown, hbel⟩ := hrel
    have HWS := Lib.hid hws
    have hwl : ws.length ≤ k := by
      rw [hws]
      have := wordsF_len (l.take k) []
      rw [List.length_take] at this
      simp only [List.length_nil, Nat.zero_add] at this
      exact Nat.le_trans this (Nat.min_le_left _ _)
    clear hws
    by_cases hlt : k < n
    case neg =>
      have hkn : k = n := by omega
      have hE : ws = words l := by rw [HWS.out, hkn, HN.out, List.take_length]
      have hge : (n : Int) ≤ (k : Int) := by omega
      subst hE
      clear hkn
      go_wp2_with fail
      go_ret
      exact retS_of hown hbel
    obtain ⟨v, hv⟩ : ∃ v, l[k]? = some v := ⟨_, List.getElem?_eq_getElem (by rw [← HN.out]; exact hlt)⟩
    obtain ⟨gb, go, rfl, hgb, q0, q1, q2⟩ := rd_val hl hv
    have F0 : ∀ w', Below w.heap.size w w' → w'.cell? ⟨gb, go + k * 3, none⟩ = some (.int .u8 (v.k : Int)) ∧ w'.cell? ⟨gb, go + k * 3 + 2, none⟩ = some (txt v.t) := fun w' hb =>
      ⟨(hb.cell (p := ⟨gb, go + k * 3, none⟩) (by show gb < _; omega)).trans q0, (hb.cell (p := ⟨gb, go + k * 3 + 2, none⟩) (by show gb < _; omega)).trans q2⟩
    have hkI : (k : Int) < (n : Int) := by omega
    have hv3 : ((v.k : Int) == 3) = true := by have := HK.out v (List.mem_of_getElem? hv); simp; omega
    obtain ⟨f0, f2⟩ := F0 wr hbel
    obtain ⟨A3, c3, rfl, hc3⟩ := own_form hown
    have hsn := words_snoc hv
    rw [← HWS.out] at hsn
    have W0 := rWhich_any wr.heap.size A3 c3 ws v.t wr (rd_own hown) (by omega)
    have hm1 : v.t ∈ ws → words (l.take (k + 1)) = ws := fun h => by rw [hsn]; unfold addWord; rw [if_pos h]
    have hm2 : v.t ∉ ws → words (l.take (k + 1)) = ws ++ [v.t] := fun h => by rw [hsn]; unfold addWord; rw [if_neg h]
    have hi1 : v.t ∈ ws → ws.idxOf v.t < ws.length := List.idxOf_lt_length_iff.2
    have hi2 : v.t ∉ ws → ws.idxOf v.t = ws.length := List.idxOf_eq_length
    obtain ⟨q, hq⟩ : ∃ q, q = ws.idxOf v.t := ⟨_, rfl⟩
    rw [← hq] at W0 hi1 hi2
    have HW := Lib.hid W0
    have HM1 := Lib.hid hm1
    have HM2 := Lib.hid hm2
    have HI1 := Lib.hid hi1
    have HI2 := Lib.hid hi2
    clear q0 q1 q2 hv F0 hsn W0 hm1 hm2 hi1 hi2 hq
    by_cases hm : v.t ∈ ws
    · have h1 := HM1.out hm
      have h2 := HI1.out hm
      have hqI : ((q : Int) == (ws.length : Int)) = false := by simp; omega
      have HE := Lib.hid h1
      clear h1 h2 hm
      go_wp2_with fail
      refine HW.out.mono ?_; rintro e w4 ⟨rfl, rfl⟩
      go_wp2_with fail
      go_roundw
      case rel => exact ⟨k + 1, ws, by omega, by go_num, HE.out.symm, hown, hbel⟩
      case measure => simp [intOf]; omega
    · have h1 := HM2.out hm
      have h2 := HI2.out hm
      have hqI : ((q : Int) == (ws.length : Int)) = true := by simp; omega
      have HE := Lib.hid h1
      clear h1 h2 hm
      go_wp2_with fail
      refine HW.out.mono ?_; rintro e w4 ⟨rfl, rfl⟩
      go_wp2_with (at_builtin; refine wpList_app El_str rfl _ _ rfl (hown.alloc _) rfl rfl (by exact rd_one _ _ _ _ _ rfl (Nat.lt_add_one _)) rfl (by intro u hu; simp at hu; subst hu; rfl) (by unfold maxLen; omega) (by omega) (by have := hbel.size; simp; omega) ?_; intro v4 w4 hown4 hg4 _)
      have hb4 : Below w.heap.size w w4 := (hbel.alloc hbel.size _).trans (own_below (hown.alloc _) hg4 (by have := hbel.size; simp; omega))
      go_roundw
      case rel =>
        refine ⟨k + 1, ws ++ [v.t], by omega, by go_num, HE.out.symm, ?_, hb4⟩
        rw [List.length_append, List.length_singleton]
        unfold strs; rw [List.map_append]; exact hown4
      case measure => simp [intOf]; omega
def wOf (ws : List (List UInt8)) (k : Nat) : List UInt8 := vput ws.length ++ (ws.take k).flatMap wbytes
def mOf (ws : List (List UInt8)) (l : List V) (k : Nat) : List UInt8 := vput ws.length ++ (ws.flatMap wbytes ++ (l.take k).flatMap fun v => whichB ws v.t)
theorem wOf_snoc {ws : List (List UInt8)} {k : Nat} {t : List UInt8} (h : ws[k]? = some t) : wOf ws (k + 1) = wOf ws k ++ vput t.length ++ t := by
  unfold wOf
  rw [List.take_add_one, h, List.flatMap_append]
  simp [wbytes, List.append_assoc]
theorem mOf_snoc {ws : List (List UInt8)} {l : List V} {k : Nat} {v : V} (h : l[k]? = some v) : mOf ws l (k + 1) = mOf ws l k ++ vput (ws.idxOf v.t) := by
  unfold mOf
  rw [List.take_add_one, h, List.flatMap_append]
  simp [whichB, List.append_assoc]
theorem wOf_le (ws : List (List UInt8)) (k : Nat) (h : ws.length ≤ 65536) : (wOf ws k).length ≤ 10 + (ws.flatMap wbytes).length := by
  unfold wOf
  have h1 := vput_length64 (show ws.length < 18446744073709551616 by omega)
  have h2 := flat_pre (List.take_prefix k ws)
  rw [List.length_append]; omega
theorem mOf_le (ws : List (List UInt8)) (l : List V) (k : Nat) (h : ws.length ≤ 65536) (hk : k ≤ 65536) : (mOf ws l k).length ≤ 10 + (ws.flatMap wbytes).length + 655360 := by
  unfold mOf
  have h1 := vput_length64 (show ws.length < 18446744073709551616 by omega)
  have h2 : ∀ (m : List V), (m.flatMap fun v => whichB ws v.t).length ≤ m.length * 10 := by
    intro m
    induction m with
    | nil => simp
    | cons v m ih =>
      have h3 : ws.idxOf v.t ≤ ws.length := List.idxOf_le_length
      have h4 := vput_length64 (show ws.idxOf v.t < 18446744073709551616 by omega)
      rw [List.flatMap_cons, List.length_append, List.length_cons]
      have : (whichB ws v.t).length ≤ 10 := h4
      omega
  have h3 := h2 (l.take k)
  rw [List.length_take] at h3
  rw [List.length_append, List.length_append]
  omega
end Go.Proofs.Ythkpgjcnnfdibaa

/-! The walks of the reference's texts and Put (layer 6). No condition but sizes. -/
namespace Go.Proofs.Ythkpgjcnnfdibaa
open Go.RowKit Go.Maps
set_option linter.unusedVariables false
set_option linter.unusedSimpArgs false

set_option maxHeartbeats 4000000 in
set_option maxRecDepth 100000 in
theorem rtexts_any (B : Nat) (A : Option Addr) (c : Nat) (l : List V) (w : World) (hl : Rd w B A (vcells l)) (hB : B ≤ w.heap.size) (hll : l.length ≤ 65536) (hk3 : ∀ v ∈ l, v.k = 3) (hT : ((words l).flatMap wbytes).length ≤ 4000000000) :
    Calls Try.prog 95 #[.slice A l.length c] w (RetB w (tput l)) := by
  have W0 := rWords_any B A c l w hl hB hll hk3
  obtain ⟨ws, hws⟩ : ∃ ws, ws = words l := ⟨_, rfl⟩
  have hwl : ws.length ≤ 65536 := by
    rw [hws]
    have := wordsF_len l []
    simp only [List.length_nil, Nat.zero_add] at this
    exact Nat.le_trans this hll
  have hmem : ∀ v ∈ l, v.t ∈ ws := fun v hv => by rw [hws]; exact wordsF_mem l [] v hv
  have hend : tput l = mOf ws l l.length := by rw [hws]; unfold mOf tput; rw [List.take_length]
  rw [← hws] at W0 hT
  obtain ⟨n, hn⟩ : ∃ n, n = l.length := ⟨_, rfl⟩
  obtain ⟨m, hm⟩ : ∃ m, m = ws.length := ⟨_, rfl⟩
  rw [← hn] at hll W0 hend ⊢
  rw [← hm] at hwl
  have P0 := fun w => rPut_any m (by omega) w
  have hWL := fun k => wOf_le ws k (by omega)
  have hML := fun k h => mOf_le ws l k (by omega) h
  have hmid : wOf ws m = mOf ws l 0 := by unfold wOf mOf; rw [hm, List.take_length]; simp
  have hst : vput m = wOf ws 0 := by unfold wOf; rw [hm]; simp
  have HW := Lib.hid W0
  have HP := Lib.hid P0
  have HN := Lib.hid hn
  have HM := Lib.hid hm
  have HEND := Lib.hid hend
  have HMEM := Lib.hid hmem
  have HWL := Lib.hid hWL
  have HML := Lib.hid hML
  have HMID := Lib.hid hmid
  have HST := Lib.hid hst
  have hmw : IntKind.u64.wrap (m : Int) = (m : Int) := by rw [IntKind.wrap_u64]; omega
  clear W0 P0 hn hws hend hmem hWL hML hmid hst hk3
  go_enter Try.func95, Try.ntmps95
  go_wp2_with fail
  refine HW.out.mono ?_; rintro e w1 ⟨A1, c1, rfl, hown1, hb1⟩
  rw [← hm] at hown1 ⊢
  clear hm
  go_wp2_with fail
  refine (HP.out _).mono ?_; rintro e w2 ⟨A2, c2, rfl, hown2, hb2⟩
  have hs2 := rd_own (own_bel hown1 hb2)
  have hb02 : Below w.heap.size w w2 := hb1.trans (hb2.mono hb1.size)
  have hz1 := hb1.size
  rw [HST.out] at hown2 ⊢
  have hs1 := rd_own hown1
  clear hown1
  go_wp2_with fail
  go_loopw [4, 5] (fun v4 v5 wr => ∃ k : Nat, k ≤ m ∧ v5 = .int .i64 k ∧ wr.ownsRow w1.heap.size 5 1 v4 (wOf ws k).length (cells (wOf ws k)) ∧ Below w1.heap.size w1 wr) (fun _ v5 _ => m - (intOf v5).toNat)
  case atStart => exact ⟨0, by omega, rfl, hown2, hb2⟩
  case round =>
    clear hown2 hb2 hs2 hb02
    obtain ⟨k, hk, rfl, hown, hbel⟩ := hrel
    have hzr := hbel.size
    by_cases hlt : k < m
    case neg =>
      have hkm : k = m := by omega
      have hge : (m : Int) ≤ (k : Int) := by omega
      rw [hkm, HMID.out] at hown
      have hb0r : Below w.heap.size w wr := hb1.trans (hbel.mono hz1)
      have hsr := hs1.below hbel
      have HLT := Lib.hid hlt
      clear hkm hlt
      go_wp2_with fail
      rw [show decide (k < m) = false from decide_eq_false HLT.out]
      obtain ⟨wx, hwx⟩ : ∃ wx, wx = wr := ⟨_, rfl⟩
      rw [← hwx] at hown hbel hzr hb0r hsr ⊢
      go_loopw [4, 6] (fun v4 v6 ws' => ∃ q : Nat, q ≤ n ∧ v6 = .int .i64 q ∧ ws'.ownsRow w1.heap.size 5 1 v4 (mOf ws l q).length (cells (mOf ws l q)) ∧ Below w1.heap.size w1 ws') (fun _ v6 _ => n - (intOf v6).toNat)
      case atStart => exact ⟨0, by omega, rfl, hown, hbel⟩
      case round =>
        clear hown hbel hzr hb0r hsr hge hwx
        obtain ⟨q, hq, rfl, hown, hbel⟩ := hrel
        have hzr := hbel.size
        by_cases hlt : q < n
        case neg =>
          have hqn : q = n := by omega
          have hge : (n : Int) ≤ (q : Int) := by omega
          rw [hqn, ← HEND.out] at hown
          clear hqn
          go_wp2_with fail
          go_ret
          exact retB_of (own_lower hown hz1) (hb1.trans (hbel.mono hz1))
        obtain ⟨v, hv⟩ : ∃ v, l[q]? = some v := ⟨_, List.getElem?_eq_getElem (by rw [← HN.out]; exact hlt)⟩
        obtain ⟨gb, go, rfl, hgb, q0, q1, q2⟩ := rd_val hl hv
        have hb0r : Below w.heap.size w wr := hb1.trans (hbel.mono hz1)
        have f2 := (hb0r.cell (p := ⟨gb, go + q * 3 + 2, none⟩) (by show gb < _; omega)).trans q2
        have hqI : (q : Int) < (n : Int) := by omega
        have hsr := hs1.below hbel
        have hix : ws.idxOf v.t < m := by rw [HM.out]; exact List.idxOf_lt_length_iff.2 (HMEM.out v (List.mem_of_getElem? hv))
        have X0 := fun w h => rWhich_any w1.heap.size A1 c1 ws v.t w h (by rw [← HM.out]; omega)
        have hsn := mOf_snoc (ws := ws) hv
        have hl1 := HML.out q (by omega)
        have hl2 := HML.out (q + 1) (by omega)
        obtain ⟨ix, hixx⟩ : ∃ ix, ix = ws.idxOf v.t := ⟨_, rfl⟩
        rw [← hixx] at hix X0 hsn
        rw [← HM.out] at X0
        have Y0 := fun w => rPut_any ix (by omega) w
        have hixw : IntKind.u64.wrap (ix : Int) = (ix : Int) := by rw [IntKind.wrap_u64]; omega
        obtain ⟨ov, hov⟩ : ∃ ov, ov = vput ix := ⟨_, rfl⟩
        rw [← hov] at Y0 hsn
        obtain ⟨bs, hbs⟩ : ∃ bs, bs = mOf ws l q := ⟨_, rfl⟩
        rw [← hbs] at hown hsn hl1
        rw [hsn, List.length_append] at hl2
        have HX := Lib.hid X0
        have HY := Lib.hid Y0
        have HSN := Lib.hid hsn
        clear q0 q1 q2 hv X0 Y0 hsn hixx hov hbs
        go_wp2_with fail
        refine (HX.out _ hsr).mono ?_; rintro e w4 ⟨rfl, rfl⟩
        go_wp2_with fail
        refine (HY.out _).mono ?_; rintro e w5 ⟨A5, c5, rfl, hown5, hb5⟩
        have hown6 := own_bel hown hb5
        have hb15 : Below w1.heap.size w1 w5 := hbel.trans (hb5.mono hzr)
        have hrd5 := rd_own hown5
        clear hown hown5
        go_wp2_with (at_builtin; refine wpList_app El_u8 rfl _ _ rfl hown6 rfl rfl hrd5 (by simp) (cells_one ov) (by unfold maxLen; omega) (by omega) hb15.size ?_; intro v7 w7 hown7 hg7 _)
        have hb7 : Below w1.heap.size w1 w7 := hb15.trans (own_below hown6 hg7 hb15.size)
        go_roundw
        case rel =>
          refine ⟨q + 1, by omega, by go_num, ?_, hb7⟩
          rw [HSN.out, cells_append, List.length_append]; exact hown7
        case measure => simp [intOf]; omega
    obtain ⟨t, ht⟩ : ∃ t, ws[k]? = some t := ⟨_, List.getElem?_eq_getElem (by rw [← HM.out]; exact hlt)⟩
    have hsr := hs1.below hbel
    obtain ⟨gb, go, rfl, hgb, hcl⟩ := hsr.at (k := k) (by rw [List.length_map, ← HM.out]; exact hlt)
    have hck := hcl k (txt t) (by rw [List.getElem?_map, ht]; rfl)
    have hck1 := (hbel.cell (p := ⟨gb, go + k, none⟩) hgb).symm.trans hck
    have hkI : (k : Int) < (m : Int) := by omega
    have hsn := wOf_snoc ht
    have hl1 := HWL.out k
    have hl2 := HWL.out (k + 1)
    obtain ⟨bs, hbs⟩ : ∃ bs, bs = wOf ws k := ⟨_, rfl⟩
    rw [← hbs] at hown hsn hl1
    rw [hsn, List.length_append, List.length_append] at hl2
    have Y0 := fun w => rPut_any t.length (by omega) w
    obtain ⟨ov, hov⟩ : ∃ ov, ov = vput t.length := ⟨_, rfl⟩
    rw [← hov] at Y0 hsn hl2
    obtain ⟨tl, htl⟩ : ∃ tl, tl = t.length := ⟨_, rfl⟩
    have htw : IntKind.u64.wrap (tl : Int) = (tl : Int) := by rw [IntKind.wrap_u64]; omega
    have hsz : ∀ h : True, (⟨t.toArray⟩ : ByteArray).size = tl := fun _ => by rw [htl]; simp [ByteArray.size]
    have htw2 : IntKind.u64.wrap (t.length : Int) = (t.length : Int) := by rw [← htl]; exact htw
    have HY := Lib.hid Y0
    have HSN := Lib.hid hsn
    clear hcl ht Y0 hsn hov hbs htl hsz
    go_wp2_with fail
    refine (HY.out _).mono ?_; rintro e w5 ⟨A5, c5, rfl, hown5, hb5⟩
    have hck5 := cell_be hck hb5 (cell_lt hck)
    have hown6 := own_bel hown hb5
    have hb15 : Below w1.heap.size w1 w5 := hbel.trans (hb5.mono hzr)
    have hrd5 := rd_own hown5
    clear hown hown5
    have tok1 : True := trivial
    go_wp2_with (first
      | (at_builtin; have _t := tok1; refine wpList_app El_u8 rfl _ _ rfl hown6 rfl rfl hrd5 (by simp) (cells_one ov) (by unfold maxLen; omega) (by omega) hb15.size ?_; clear tok1; intro v7 w7 hown7 hg7 _; have hb7 : Below w1.heap.size w1 w7 := hb15.trans (own_below hown6 hg7 hb15.size); have hck7 : w7.cell? ⟨gb, go + k, none⟩ = some (txt t) := (hb7.cell (p := ⟨gb, go + k, none⟩) hgb).trans hck1; have hz7 := hb7.size)
      | (at_builtin; refine wpList_app_str rfl _ _ rfl hown7 rfl rfl (by omega) hz7 ?_; intro v8 w8 hown8 hg8))
    have hb8 : Below w1.heap.size w1 w8 := hb7.trans (own_below hown7 hg8 hz7)
    go_roundw
    case rel =>
      refine ⟨k + 1, by omega, by go_num, ?_, hb8⟩
      rw [HSN.out, cells_append, cells_append, List.length_append, List.length_append]; exact hown8
    case measure => simp [intOf]; omega

/-! ### Put -/
theorem Try.infoI64 : (Try.prog.info? 2).map (fun i => (i.zero, i.size, i.bytes)) = some (some (.int .i64 0), 1, 8) := by kernel_rfl
theorem El_i64c : El Try.prog 116 2 1 8 := el_of Try.underlying116 Try.infoI64 rfl (by decide)
theorem El_boolc : El Try.prog 106 4 1 1 := el_of Try.underlying106 Try.infoBool rfl (by decide)
theorem nulls_F (l : List V) : bitsN l.length (blF (l.map isNull)) = bitsN l.length (nullAt l) := bitsN_congr fun i hi => by
  unfold blF nullAt
  rw [List.getD_eq_getElem?_getD, List.getElem?_map, List.getElem?_eq_getElem hi]; rfl
theorem truths_F (m : List V) : bitsN m.length (blF (m.map fun v => decide (v.n = 1))) = bitsN m.length (truthAt m) := bitsN_congr fun i hi => by
  unfold blF truthAt
  rw [List.getD_eq_getElem?_getD, List.getElem?_map, List.getElem?_eq_getElem hi]; rfl
theorem bool_own {w : World} {base : Nat} {v : Value} {m : List Bool} {x : Bool} {n : Nat} (h : w.ownsRow base 4 1 v (m.length + 1) (bools m ++ [.bool x])) (hn : n = m.length + 1) : w.ownsRow base 4 1 v n (bools (m ++ [x])) := by
  subst hn; unfold bools; rw [List.map_append]; exact h
end Go.Proofs.Ythkpgjcnnfdibaa

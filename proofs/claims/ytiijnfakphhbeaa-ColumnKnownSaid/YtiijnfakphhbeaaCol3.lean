/- The walks of column.putTruths, getTruths, putNumbers, getNumbers (layer 6). For at most 65536 values. -/
import Derived.Test.YtiijnfakphhbeaaCol2
import Derived.Test.YtiijnfakphhbeaaJntRun
import Derived.Test.YtiijnfakphhbeaaJntGet
namespace Go.Proofs.Ytiijnfakphhbeaa
open Go.RowKit Go.Maps
set_option linter.unusedVariables false
set_option linter.unusedSimpArgs false

/-! ### closures over a slice of values -/
section
variable (q : Nat) (A : Option Addr) (c i : Nat) (l : List V) (B : Nat) (w : World) (hq : w.cell? ⟨q, 0, none⟩ = some (.slice A l.length c)) (hr : Rd w B A (vcells l)) (hi : i < l.length)
include hq hr hi
set_option maxRecDepth 100000 in
theorem truth1_any : Calls Try.prog 59 #[.int .i64 (i : Int), .pointer (some ⟨q, 0, none⟩)] w fun e w' => e = .returned (.bool (truthAt l i)) ∧ w = w' := by
  obtain ⟨v, hv⟩ : ∃ v, l[i]? = some v := ⟨_, List.getElem?_eq_getElem hi⟩
  obtain ⟨gb, go, rfl, hgb, q0, q1, q2⟩ := rd_val hr hv
  have hiI : (i : Int) < (l.length : Int) := by omega
  obtain ⟨x, hx⟩ : ∃ x, x = truthAt l i := ⟨_, rfl⟩
  have hx2 : (v.n == 1) = x := by rw [hx]; unfold truthAt; rw [hv]; by_cases h : v.n = 1 <;> simp [h]
  rw [← hx]
  have HX := Lib.hid hx2
  clear hv hx hx2 hr
  go_enter Try.func59, Try.ntmps59
  go_wp2
  go_ret
  exact ⟨by rw [← HX.out]; rfl, rfl⟩
set_option maxRecDepth 100000 in
theorem null1_any : Calls Try.prog 31 #[.int .i64 (i : Int), .pointer (some ⟨q, 0, none⟩)] w fun e w' => e = .returned (.bool (nullAt l i)) ∧ w = w' := by
  obtain ⟨v, hv⟩ : ∃ v, l[i]? = some v := ⟨_, List.getElem?_eq_getElem hi⟩
  obtain ⟨gb, go, rfl, hgb, q0, q1, q2⟩ := rd_val hr hv
  have hiI : (i : Int) < (l.length : Int) := by omega
  obtain ⟨x, hx⟩ : ∃ x, x = nullAt l i := ⟨_, rfl⟩
  have hx2 : ((v.k : Int) == 0) = x := by
    rw [hx, nullAt_of hv]
    unfold isNull
    by_cases h : v.k = 0
    · simp [h]
    · rw [decide_eq_false h]; exact beq_eq_false_iff_ne.2 (by omega)
  rw [← hx]
  have HX := Lib.hid hx2
  clear hv hx hx2 hr
  go_enter Try.func31, Try.ntmps31
  go_wp2
  go_ret
  exact ⟨by rw [← HX.out]; rfl, rfl⟩
end

set_option maxRecDepth 100000 in
theorem putTruths_any (A : Option Addr) (c : Nat) (l : List V) (w : World) (hr : Rd w w.heap.size A (vcells l)) (hl : l.length ≤ 65536) :
    Calls Try.prog 41 #[.slice A l.length c] w (RetB w (bitsN l.length (truthAt l))) := by
  obtain ⟨w1, hw1⟩ : ∃ w1, w1 = w.alloc (.cells #[.slice A l.length c] 22) := ⟨_, rfl⟩
  have hb1 : Below w.heap.size w w1 := by rw [hw1]; exact (Below.refl _ _).alloc (Nat.le_refl _) _
  have hq1 : w1.cell? ⟨w.heap.size, 0, none⟩ = some (.slice A l.length c) := by rw [hw1]; simp [go_sem]
  have hL := lay_any l.length hl 59 (.pointer (some ⟨w.heap.size, 0, none⟩)) (truthAt l) (fun _ _ => by kernel_rfl) w1 (fun w' h i hi => truth1_any w.heap.size A c i l w.heap.size w' (cell_be hq1 h (cell_lt hq1)) (hr.below (hb1.trans (h.mono hb1.size))) hi)
  rw [hw1] at hL
  have HL := Lib.hid hL
  clear hL hw1 hq1 hb1
  go_enter Try.func41, Try.ntmps41
  go_wp2_with fail
  refine HL.out.mono ?_; rintro e w4 ⟨A4, c4, rfl, hown4, hb4⟩
  have hb : Below w.heap.size w w4 := ((Below.refl _ _).alloc (Nat.le_refl _) _).trans (hb4.mono (by simp))
  have hown5 : w4.ownsRow w.heap.size 5 1 (.slice A4 (bitsN l.length (truthAt l)).length c4) (bitsN l.length (truthAt l)).length (cells (bitsN l.length (truthAt l))) := own_lower hown4 (by simp)
  clear hown4 hb4
  go_wp2_with fail
  go_ret
  exact retB_of hown5 hb

/-! ### one field of a value set -/
theorem set_kind {l : List V} {i : Nat} {v : V} (h : l[i]? = some v) (x : Nat) : (vcells l).set (i * 3) (.int .u8 (x : Int)) = vcells (l.set i ⟨x, v.n, v.t⟩) := by
  have hi : i < l.length := (List.getElem?_eq_some_iff.1 h).1
  apply List.ext_getElem?
  intro j
  rw [vcells_get (l.set i ⟨x, v.n, v.t⟩), List.getElem?_set (l := l)]
  have hl := vcells_length l
  by_cases hj : i = j / 3
  · rw [if_pos hj, if_pos hi]
    rcases (by omega : j = i * 3 ∨ j = i * 3 + 1 ∨ j = i * 3 + 2) with rfl | rfl | rfl
    · rw [List.getElem?_set_self (by omega), show i * 3 % 3 = 0 by omega]; rfl
    · rw [List.getElem?_set_ne (by omega), (vcells_at l i v h).2.1, show (i * 3 + 1) % 3 = 1 by omega]; rfl
    · rw [List.getElem?_set_ne (by omega), (vcells_at l i v h).2.2, show (i * 3 + 2) % 3 = 2 by omega]; rfl
  · rw [if_neg hj, List.getElem?_set_ne (by omega), vcells_get]
theorem set_num {l : List V} {i : Nat} {v : V} (h : l[i]? = some v) (x : Int) : (vcells l).set (i * 3 + 1) (.int .i64 x) = vcells (l.set i ⟨v.k, x, v.t⟩) := by
  have hi : i < l.length := (List.getElem?_eq_some_iff.1 h).1
  apply List.ext_getElem?
  intro j
  rw [vcells_get (l.set i ⟨v.k, x, v.t⟩), List.getElem?_set (l := l)]
  have hl := vcells_length l
  by_cases hj : i = j / 3
  · rw [if_pos hj, if_pos hi]
    rcases (by omega : j = i * 3 ∨ j = i * 3 + 1 ∨ j = i * 3 + 2) with rfl | rfl | rfl
    · rw [List.getElem?_set_ne (by omega), (vcells_at l i v h).1, show i * 3 % 3 = 0 by omega]; rfl
    · rw [List.getElem?_set_self (by omega), show (i * 3 + 1) % 3 = 1 by omega]; rfl
    · rw [List.getElem?_set_ne (by omega), (vcells_at l i v h).2.2, show (i * 3 + 2) % 3 = 2 by omega]; rfl
  · rw [if_neg hj, List.getElem?_set_ne (by omega), vcells_get]
/-- k truths, and nulls behind -/
def trTo (b : List UInt8) (n k : Nat) : List V := truthsOf b k ++ List.replicate (n - k) null
theorem trTo_len {b : List UInt8} {n k : Nat} (h : k ≤ n) : (trTo b n k).length = n := by simp [trTo, truthsOf]; omega
theorem trTo_get {b : List UInt8} {n k : Nat} (h : k < n) : (trTo b n k)[k]? = some null := by
  unfold trTo
  rw [List.getElem?_append_right (by simp [truthsOf]), show k - (truthsOf b k).length = 0 by simp [truthsOf], List.getElem?_replicate, if_pos (by omega)]
theorem trTo_set {b : List UInt8} {n k : Nat} (h : k < n) : (trTo b n k).set k ⟨1, if bitAt b k then 1 else 0, []⟩ = trTo b n (k + 1) := by
  unfold trTo truthsOf
  rw [List.set_append_right _ _ (by simp), List.length_map, List.length_range, Nat.sub_self, show n - k = (n - (k + 1)) + 1 by omega, List.replicate_succ, List.set_cons_zero, List.range_succ, List.map_append, List.append_assoc]
  rfl

set_option maxHeartbeats 4000000 in
set_option maxRecDepth 100000 in
theorem getTruths_any (B : Nat) (A : Option Addr) (c : Nat) (b : List UInt8) (n : Nat) (w : World) (hr : Rd w B A (cells b)) (hc : b.length ≤ c) (hB : B ≤ w.heap.size) (hn : n ≤ 65536) (hb : b.length ≤ 4294967296) :
    Calls Try.prog 42 #[.slice A b.length c, .int .i64 (n : Int)] w (RetVE w (cread 1 b n)) := by
  have hcr : cread 1 b n = (if tkE b n ≠ 0 then ([], tkE b n) else if size8 n < b.length then ([], 21) else (truthsOf b n, 0)) := by unfold cread; rw [if_pos (by decide)]
  have T0 := take_any B A c b n w hr hc hB hn hb
  have HT := Lib.hid T0
  have HCR := Lib.hid hcr
  clear T0 hcr
  go_enter Try.func42, Try.ntmps42
  go_wp2_with fail
  refine HT.out.mono ?_
  rintro e w1 (⟨he, rfl, hb1⟩ | ⟨he, A1, c1, A2, c2, rfl, hown1, hrd1, hc2, hb1⟩)
  · have hE : cread 1 b n = ([], tkE b n) := by rw [HCR.out, if_pos he]
    obtain ⟨x, hx⟩ : ∃ x, x = tkE b n := ⟨_, rfl⟩
    rw [← hx] at hE he ⊢
    have HE := Lib.hid hE
    have heI : ((x : Int) != 0) = true := by simp; omega
    clear hE he hx
    go_wp2_with fail
    go_ret2
    exact retVE_err HE.out hb1
  have hrl : (b.drop (size8 n)).length = b.length - size8 n := List.length_drop
  by_cases hbl : size8 n < b.length
  · have hE : cread 1 b n = ([], 21) := by rw [HCR.out, if_neg (by simpa using he), if_pos hbl]
    have HE := Lib.hid hE
    have hI : (0 : Int) < ((b.drop (size8 n)).length : Int) := by omega
    obtain ⟨rl, hrlx⟩ : ∃ rl, rl = (b.drop (size8 n)).length := ⟨_, rfl⟩
    rw [← hrlx] at hI ⊢
    clear hE hrl hrlx
    go_wp2_with fail
    go_ret2
    exact retVE_err HE.out hb1
  have hE : cread 1 b n = (truthsOf b n, 0) := by rw [HCR.out, if_neg (by simpa using he), if_neg hbl]
  have HE := Lib.hid hE
  have hI : (b.drop (size8 n)).length = 0 := by omega
  rw [hI]
  clear hE hrl hbl he hI hrd1 hc2
  obtain ⟨by_, hinfo, hby⟩ := Try.infoVal
  obtain ⟨i0, hi, hz0, hz1, hz2⟩ := info_parts hinfo
  obtain ⟨w2, hmk, hown, hg⟩ := run_make_full (P := Try.prog) w1 w1.heap.size 22 38 i0 (.agg #[.int .u8 0, .int .i64 0, .string ByteArray.empty]) 3 Try.underlying22 hi hz0 hz1 .i64 .i64 n (by rw [hz2]; exact Nat.le_trans (Nat.mul_le_mul hby hn) (by decide)) (by unfold maxLen; omega) (Nat.le_refl _)
  have hmk2 : (Instr.makeSlice 22 (.int .i64 (n : Int)) (.int .i64 (n : Int))).run Try.prog w1 = .ok (.slice (some ⟨w1.heap.size, 0, none⟩) n n) w2 := hmk
  have hown2 : w2.ownsRow w1.heap.size 38 3 (.slice (some ⟨w1.heap.size, 0, none⟩) n n) n (vcells (trTo b n 0)) := by
    have h := hown
    rwa [vcells_rep null n (Value.agg #[.int .u8 0, .int .i64 0, .string ByteArray.empty]).cells rfl] at h
  have hb2 : Below w1.heap.size w1 w2 := (Below.refl _ w1).grown hg (Nat.le_refl _) (by simp)
  clear hmk hown hi hz0 hz1 hz2 hg hinfo
  go_wp2_with fail
  obtain ⟨g, hgg⟩ : ∃ g, g = w1.heap.size := ⟨_, rfl⟩
  rw [← hgg] at hown2 hmk2 ⊢
  have hrb := (rd_own hown1).more (Nat.le_refl _)
  rw [← hgg] at hrb
  rw [← hgg] at hb2
  have hgw : w.heap.size ≤ g := by rw [hgg]; exact hb1.size
  clear hgg
  go_loopw [31] (fun v31 wr => ∃ k : Nat, k ≤ n ∧ v31 = .int .i64 k ∧ wr.ownsRow g 38 3 (.slice (some ⟨g, 0, none⟩) n n) n (vcells (trTo b n k)) ∧ Below g w1 wr) (fun v31 _ => n - (intOf v31).toNat)
  case atStart => exact ⟨0, by omega, rfl, hown2, hb2⟩
  case round =>
    clear hown2 hb2 hmk2
    obtain ⟨k, hk, rfl, hown, hbel⟩ := hrel
    by_cases hlt : k < n
    case neg =>
      have hkn : k = n := by omega
      have hge : (n : Int) ≤ (k : Int) := by omega
      have hl : (truthsOf b n).length = n := by simp [truthsOf]
      rw [hkn, show trTo b n n = truthsOf b n by simp [trTo]] at hown
      have hown3 : wr.ownsRow w.heap.size 38 3 (.slice (some ⟨g, 0, none⟩) n n) (truthsOf b n).length (vcells (truthsOf b n)) := by rw [hl]; exact own_lower hown hgw
      clear hkn
      go_wp2_with fail
      go_ret2
      exact retVE_ok HE.out hown3 (hb1.trans (hbel.mono hgw))
    have hkI : (k : Int) < (n : Int) := by omega
    obtain ⟨bb, oo, rfl, hbb, hcell⟩ := hrb.at (k := k) (by simp [blN_len]; exact hlt)
    have hck0 := hcell k (.bool (bitAt b k)) (by rw [List.getElem?_map, blN_get hlt]; rfl)
    have hck := (hbel.cell (p := ⟨bb, oo + k, none⟩) hbb).trans hck0
    have ca := hown.cellAt (k * 3) (by omega)
    have cb := hown.cellAt (k * 3 + 1) (by omega)
    obtain ⟨e1, e2, e3⟩ := vcells_at _ _ _ (trTo_get (b := b) hlt)
    rw [e1] at ca; rw [e2] at cb
    have fa := hown.frozenAt (k * 3)
    have fb := hown.frozenAt (k * 3 + 1)
    have hs1 := (hown.stored (k * 3) (.int .u8 1)).1
    rw [show (Value.int .u8 1) = Value.int .u8 ((1 : Nat) : Int) from rfl, set_kind (trTo_get hlt)] at hs1
    have hs2 := (hs1.stored (k * 3 + 1) (.int .i64 1)).1
    have hgt : ((trTo b n k).set k ⟨1, null.n, null.t⟩)[k]? = some ⟨1, null.n, null.t⟩ := by rw [List.getElem?_set_self (by rw [trTo_len hk]; exact hlt)]
    rw [set_num hgt, List.set_set] at hs2
    have hst := trTo_set (b := b) hlt
    obtain ⟨bi, hbi⟩ : ∃ x, x = bitAt b k := ⟨_, rfl⟩
    rw [← hbi] at hck hst
    have HS1 := Lib.hid hs1
    have HS2 := Lib.hid hs2
    have HST := Lib.hid hst
    clear hcell hck0 e1 e2 e3 hs1 hs2 hgt hst hbi
    cases bi
    · go_wp2_with fail
      go_roundw
      case rel =>
        refine ⟨k + 1, by omega, by go_num, ?_, ?_⟩
        · rw [← HST.out]; exact HS1.out
        · exact hbel.setCell (p := ⟨g, k * 3, none⟩) (Nat.le_refl _) _
      case measure => simp [intOf]; omega
    · go_wp2_with fail
      go_roundw
      case rel =>
        refine ⟨k + 1, by omega, by go_num, ?_, ?_⟩
        · rw [← HST.out]; exact HS2.out
        · exact (hbel.setCell (p := ⟨g, k * 3, none⟩) (Nat.le_refl _) _).setCell (p := ⟨g, k * 3 + 1, none⟩) (Nat.le_refl _) _
      case measure => simp [intOf]; omega
end Go.Proofs.Ytiijnfakphhbeaa

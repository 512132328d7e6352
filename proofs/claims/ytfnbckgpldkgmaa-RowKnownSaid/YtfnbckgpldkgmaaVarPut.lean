/- The walks of varint.Put and of the reference's Put (layer 2): what comes back are the bytes that were there, and behind them vput's, in new memory. -/
import Derived.Test.YtfnbckgpldkgmaaVar
import Derived.Test.YtfnbckgpldkgmaaApp
import Derived.Lib.Varint
namespace Go.Proofs.Ytfnbckgpldkgmaa
open Go.RowKit

abbrev cells (l : List UInt8) : List Value := l.map b8
theorem cells_one (l : List UInt8) : ∀ u ∈ cells l, u.oneCell' = true := by
  intro u hu; obtain ⟨c, _, rfl⟩ := List.mem_map.1 hu; rfl
theorem cells_append (a b : List UInt8) : cells (a ++ b) = cells a ++ cells b := List.map_append
theorem cells_snoc (l : List UInt8) {a : Nat} (h : a < 256) : cells (l ++ [a.toUInt8]) = cells l ++ [Value.int .u8 (a : Int)] := by
  rw [cells_append]
  simp only [cells, List.map_cons, List.map_nil, b8, toNat_toUInt8 h]
theorem El_u8 : El Try.prog 22 5 1 1 := el_of Try.underlying22 Try.infoU8 rfl (by decide)

/-- What a call that answers bytes leaves: they lie in new memory, nothing that was there has turned. -/
def RetB (w : World) (l : List UInt8) (e : Ending) (w' : World) : Prop :=
  ∃ A c, e = .returned (.slice A l.length c) ∧ w'.ownsRow w.heap.size 5 1 (.slice A l.length c) l.length (cells l) ∧ Below w.heap.size w w'
theorem retB_of {w w' : World} {l : List UInt8} {v : Value} (h : w'.ownsRow w.heap.size 5 1 v l.length (cells l)) (hb : Below w.heap.size w w') : RetB w l (.returned v) w' := by
  obtain ⟨A, c, rfl, _⟩ := own_form h
  exact ⟨A, c, rfl, h, hb⟩

theorem one_int {k : IntKind} {a : Int} : ∀ u ∈ [Value.int k a], u.oneCell' = true := by
  intro u hu; simp at hu; subst hu; rfl

set_option maxHeartbeats 1000000 in
set_option maxRecDepth 100000 in
theorem Put_any (B : Nat) (A : Option Addr) (c : Nat) (l : List UInt8) (x : Nat) (hx : x < 18446744073709551616) (w : World) (h : Rd w B A (cells l)) (hl : l.length ≤ 4294967296) :
    Calls Try.prog 28 #[.slice A l.length c, .int .u64 x] w (RetB w (l ++ vput x)) := by
  have hlen := vput_length64 hx
  go_enter Try.func28, Try.ntmps28
  go_wp2_with (at_builtin; refine wpList_app El_u8 rfl _ _ rfl (World.ownsRow_nil w w.heap.size 5 1) rfl rfl h (by simp) (cells_one l) (by unfold maxLen; omega) (by omega) (Nat.le_refl _) ?_; intro v1 w1 hown1 hg1 _)
  have hb1 := own_below (World.ownsRow_nil w w.heap.size 5 1) hg1 (Nat.le_refl _)
  rw [Nat.zero_add, List.nil_append] at hown1
  go_loopw [1, 5] (fun vx vb wr => ∃ (y : Nat) (pre : List UInt8), vx = .int .u64 y ∧ y ≤ x ∧ vput x = pre ++ vput y ∧ wr.ownsRow w.heap.size 5 1 vb (l ++ pre).length (cells (l ++ pre)) ∧ Below w.heap.size w wr)
    (fun vx _ _ => (intOf vx).toNat)
  case atStart => exact ⟨x, [], rfl, Nat.le_refl _, rfl, by simpa using hown1, hb1⟩
  case round =>
    obtain ⟨y, pre, rfl, hy, hsplit, hown, hnx⟩ := hrel
    have hpl : pre.length + (vput y).length ≤ 10 := by
      have h2 := congrArg List.length hsplit
      rw [List.length_append] at h2
      omega
    have hyp := vput_pos y
    have hpl' : (l ++ pre).length = l.length + pre.length := List.length_append
    have HS := Lib.hid hsplit
    have HL := Lib.hid hpl'
    have hle : (l ++ pre).length ≤ l.length + 10 := by omega
    clear hsplit hpl' hown1 hb1 hg1
    by_cases h128 : 128 ≤ y
    · have hor : bits .or .u8 ((y : Int) % 256) 128 = ((y % 128 + 128 : Nat) : Int) := by
        rw [Lib.u8_or128_any _ (by omega) (by omega)]
        omega
      go_wp2_with (at_builtin; refine wpList_app El_u8 rfl _ _ rfl (hown.alloc _) rfl rfl (by exact rd_one _ _ _ _ _ rfl (Nat.lt_add_one _)) rfl one_int (by unfold maxLen; omega) (by omega) (by have := hnx.size; simp; omega) ?_; intro v2 w2 hown2 hg2 _)
      have hb2 : Below w.heap.size w w2 := (hnx.alloc hnx.size _).trans (own_below (hown.alloc _) hg2 (by have := hnx.size; simp; omega))
      go_roundw
      case rel =>
        refine ⟨y / 128, pre ++ [(y % 128 + 128).toUInt8], by go_num, by omega, by rw [HS.out, vput_big h128]; simp, ?_, hb2⟩
        rw [← List.append_assoc, cells_snoc _ (show y % 128 + 128 < 256 by omega), List.length_append (bs := [_]), List.length_singleton]
        simpa using hown2
      case measure => simp [intOf]; omega
    · have hsm : vput y = [y.toUInt8] := vput_small (by omega)
      go_wp2_with (at_builtin; refine wpList_app El_u8 rfl _ _ rfl (hown.alloc _) rfl rfl (by exact rd_one _ _ _ _ _ rfl (Nat.lt_add_one _)) rfl one_int (by unfold maxLen; omega) (by omega) (by have := hnx.size; simp; omega) ?_; intro v2 w2 hown2 hg2 _)
      have hb2 : Below w.heap.size w w2 := (hnx.alloc hnx.size _).trans (own_below (hown.alloc _) hg2 (by have := hnx.size; simp; omega))
      go_ret
      refine retB_of ?_ hb2
      rw [HS.out, hsm, ← List.append_assoc, cells_snoc _ (show y < 256 by omega), List.length_append (bs := [_]), List.length_singleton]
      simpa using hown2

set_option maxHeartbeats 1000000 in
set_option maxRecDepth 100000 in
theorem rPut_any (x : Nat) (hx : x < 18446744073709551616) (w : World) : Calls Try.prog 36 #[.int .u64 x] w (RetB w (vput x)) := by
  have hlen := vput_length64 hx
  go_enter Try.func36, Try.ntmps36
  go_wp2
  go_loopw [0, 3] (fun vx vb wr => ∃ (y : Nat) (pre : List UInt8), vx = .int .u64 y ∧ y ≤ x ∧ vput x = pre ++ vput y ∧ wr.ownsRow w.heap.size 5 1 vb pre.length (cells pre) ∧ Below w.heap.size w wr)
    (fun vx _ _ => (intOf vx).toNat)
  case atStart => exact ⟨x, [], rfl, Nat.le_refl _, rfl, World.ownsRow_nil _ _ _ _, Below.refl _ _⟩
  case round =>
    obtain ⟨y, pre, rfl, hy, hsplit, hown, hnx⟩ := hrel
    have hpl : pre.length + (vput y).length ≤ 10 := by
      have h2 := congrArg List.length hsplit
      rw [List.length_append] at h2
      omega
    have hyp := vput_pos y
    have HS := Lib.hid hsplit
    clear hsplit
    by_cases h128 : 128 ≤ y
    · have hd : ((y : Int) / 128 == 0) = false := by simp; omega
      go_wp2_with (at_builtin; refine wpList_app El_u8 rfl _ _ rfl (hown.alloc _) rfl rfl (by exact rd_one _ _ _ _ _ rfl (Nat.lt_add_one _)) rfl one_int (by unfold maxLen; omega) (by omega) (by have := hnx.size; simp; omega) ?_; intro v2 w2 hown2 hg2 _)
      have hb2 : Below w.heap.size w w2 := (hnx.alloc hnx.size _).trans (own_below (hown.alloc _) hg2 (by have := hnx.size; simp; omega))
      go_roundw
      case rel =>
        refine ⟨y / 128, pre ++ [(y % 128 + 128).toUInt8], by go_num, by omega, by rw [HS.out, vput_big h128]; simp, ?_, hb2⟩
        rw [cells_snoc _ (show y % 128 + 128 < 256 by omega), List.length_append (bs := [_]), List.length_singleton]
        simpa using hown2
      case measure => simp [intOf]; omega
    · have hd : ((y : Int) / 128 == 0) = true := by simp; omega
      have hsm : vput y = [y.toUInt8] := vput_small (by omega)
      have hm : (y : Int) % 128 = y := by omega
      go_wp2_with (at_builtin; refine wpList_app El_u8 rfl _ _ rfl (hown.alloc _) rfl rfl (by exact rd_one _ _ _ _ _ rfl (Nat.lt_add_one _)) rfl one_int (by unfold maxLen; omega) (by omega) (by have := hnx.size; simp; omega) ?_; intro v2 w2 hown2 hg2 _)
      have hb2 : Below w.heap.size w w2 := (hnx.alloc hnx.size _).trans (own_below (hown.alloc _) hg2 (by have := hnx.size; simp; omega))
      go_ret
      refine retB_of ?_ hb2
      rw [HS.out, hsm, cells_snoc _ (show y < 256 by omega), List.length_append (bs := [_]), List.length_singleton]
      simpa using hown2

/-- string(b) of bytes that lie in memory -/
theorem conv_rd {w : World} {B : Nat} {A : Option Addr} {l : List UInt8} (h : Rd w B A (cells l)) (c : Nat) :
    (convert 22 9 (.slice A l.length c)).run Try.prog w = .ok (.string ⟨l.toArray⟩) w := by
  rw [run_convert_bytes_string w 22 9 5 A _ c Try.underlying22 Try.underlying5 Try.underlying9]
  have hfin : (ByteArray.empty.data ++ ((l.map fun c => (c.toNat : Int)).map fun n => UInt8.ofNat n.toNat).toArray) = l.toArray := by
    have e : ∀ l : List UInt8, (l.map fun c => (c.toNat : Int)).map (fun n => UInt8.ofNat n.toNat) = l := fun l => by
      rw [List.map_map]; conv => rhs; rw [← List.map_id l]
      exact List.map_congr_left fun c _ => by simp
    rw [e]
    simp [ByteArray.empty, ByteArray.emptyWithCapacity]
    rfl
  rcases A with _ | ad
  · rcases h with h | ⟨b, o, h, _⟩
    · have : l = [] := by simpa using h
      subst this
      simp [Conv.bytesToString]
      rfl
    · cases h
  · have hl : (loadCells ad l.length).run Try.prog w = .ok ((l.map fun c => (c.toNat : Int)).map (Value.int .u8)).toArray w := by
      have := run_loadCells_list (P := Try.prog) w ad ((l.map fun c => (c.toNat : Int)).map (Value.int .u8)) (fun j v hj => by
        rcases h with h | ⟨b, o, h, _, hc⟩
        · have : l = [] := by simpa using h
          subst this; simp at hj
        · cases h
          have e : (⟨b, o, none⟩ : Addr).add j = ⟨b, o + j, none⟩ := by unfold Addr.add; split <;> simp_all
          rw [e]
          exact hc j v (by rw [← hj, List.map_map]; rfl))
      simpa using this
    rw [run_bytesToString w ad l.length c _ hl, foldl_push_bytes, hfin]
/-- the same of what a call has made -/
theorem conv_own {w : World} {base n c : Nat} {A : Option Addr} {l : List UInt8} (h : w.ownsRow base 5 1 (.slice A n c) n (cells l)) :
    (convert 22 9 (.slice A n c)).run Try.prog w = .ok (.string ⟨l.toArray⟩) w := by
  have hn : n = l.length := by have := h.1; simpa using this.symm
  subst hn
  exact conv_rd (rd_own h) c
end Go.Proofs.Ytfnbckgpldkgmaa

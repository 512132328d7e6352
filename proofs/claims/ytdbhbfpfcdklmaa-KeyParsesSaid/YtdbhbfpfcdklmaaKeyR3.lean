/- The reference's text and Parse (layer 3), walked: they answer rtext, kparse. For bytes of at most 2^32. -/
import Derived.Test.YtdbhbfpfcdklmaaKeyR2
namespace Go.Proofs.Ytdbhbfpfcdklmaa
open Go.RowKit
set_option linter.unusedVariables false
set_option linter.unusedSimpArgs false

/-- What text leaves: the text, how many bytes, the error. -/
def RetT (w : World) (b : List UInt8) (x : List UInt8 × List UInt8 × Nat) (e : Ending) (w' : World) : Prop :=
  (∃ n : Nat, e = .returned (.tuple #[txt x.1, .int .i64 (n : Int), .int .i64 (x.2.2 : Int)]) ∧ (x.2.2 = 0 → n ≤ b.length ∧ b.drop n = x.2.1)) ∧ Below w.heap.size w w'

theorem drop_head {l : List UInt8} {i : Nat} (h : i < l.length) : ∃ d, l[i]? = some d ∧ l.drop i = d :: l.drop (i + 1) :=
  ⟨l[i], List.getElem?_eq_getElem h, List.drop_eq_getElem_cons h⟩

set_option maxHeartbeats 2000000 in
set_option maxRecDepth 100000 in
theorem RText_any (B : Nat) (A : Option Addr) (c : Nat) (b : List UInt8) (w : World) (hr : Rd w B A (cells b)) (hB : B ≤ w.heap.size) (hlen : b.length ≤ 4294967296) :
    Calls Try.prog 24 #[.slice A b.length c] w (RetT w b (rtext [] b)) := by
  have hcell : ∀ w', Below w.heap.size w w' → ∀ i d, b[i]? = some d → ∃ bb oo, A = some ⟨bb, oo, none⟩ ∧ w'.cell? ⟨bb, oo + i, none⟩ = some (.int .u8 (d.toNat : Int)) := fun w' h i d hd => by
    obtain ⟨bb, oo, hA, hbb, hcc⟩ := (hr.below (h.mono hB)).at (k := i) (by simpa using (List.getElem?_eq_some_iff.1 hd).1)
    exact ⟨bb, oo, hA, hcc i _ (by rw [List.getElem?_map, hd]; rfl)⟩
  have HC := Lib.hid hcell
  clear hcell
  obtain ⟨x, hx⟩ : ∃ x, x = rtext [] b := ⟨_, rfl⟩
  rw [← hx]
  have HX := Lib.hid hx
  clear hx
  go_enter Try.func24, Try.ntmps24
  go_wp2
  go_loopw [5, 6] (fun v5 v6 wr => ∃ (i : Nat) (s : List UInt8), i ≤ b.length ∧ v6 = .int .i64 i ∧ s.length ≤ i ∧ wr.ownsRow w.heap.size 5 1 v5 s.length (cells s) ∧ x = rtext s (b.drop i) ∧ Below w.heap.size w wr) (fun _ v6 _ => b.length - (intOf v6).toNat)
  case atStart => exact ⟨0, [], by omega, rfl, by simp, World.ownsRow_nil _ _ _ _, HX.out, Below.refl _ _⟩
  case round =>
    obtain ⟨i, s, hi, rfl, hsi, hown, hxr, hbel⟩ := hrel
    obtain ⟨A5, c5, rfl, hc5⟩ := own_form hown
    have HXR := Lib.hid hxr
    have hsz := hbel.size
    clear hxr
    by_cases hlt : i < b.length
    case neg =>
      have hib : i = b.length := by omega
      have hx : x = ([], [], 20) := by rw [HXR.out, hib, List.drop_length, rtext_nil]
      subst hib
      subst hx
      go_wp2_with fail
      go_ret3
      exact ⟨⟨0, rfl, by simp⟩, hbel⟩
    obtain ⟨d, hd, hdr⟩ := drop_head hlt
    obtain ⟨bb, oo, rfl, hc⟩ := HC.out wr hbel i d hd
    have hltI : (i : Int) < (b.length : Int) := by omega
    have hi0 : (0 : Int) ≤ (i : Int) + 1 := by omega
    by_cases hd0 : d = 0
    case neg =>
      have HX2 : Hid (x = rtext (s ++ [d]) (b.drop (i + 1))) := Lib.hid (by rw [HXR.out, hdr]; exact rtext_nz s _ d hd0)
      have hdI : ((d.toNat : Int) != 0) = true := by
        simp only [bne_iff_ne, ne_eq]
        intro e
        exact hd0 (UInt8.toNat_inj.1 (by show d.toNat = 0; omega))
      have hal : ∀ o, (wr.alloc o).cell? ⟨bb, oo + i, none⟩ = some (.int .u8 (d.toNat : Int)) := fun o => cell_al hc (cell_lt hc) o
      clear hdr hd0 hd
      go_wp2_with (at_builtin; refine wpList_app El_u8 rfl _ _ rfl (hown.alloc _) rfl rfl (by exact rd_one _ _ _ _ _ rfl (Nat.lt_add_one _)) rfl one_int (by unfold maxLen; omega) (by omega) (by simp; omega) ?_; intro v2 w3 hown3 hg3 ho3)
      have hb3 : Below w.heap.size w w3 := (hbel.alloc hbel.size _).trans (own_below (hown.alloc _) hg3 (by simp; omega))
      go_roundw
      case rel => exact ⟨i + 1, s ++ [d], by omega, by go_num, by simp; omega, by rw [cells_append, List.length_append, List.length_singleton]; exact hown3, HX2.out, hb3⟩
      case measure => simp [intOf]; omega
    subst hd0
    rw [show ((0 : UInt8).toNat : Int) = 0 from rfl] at hc
    by_cases hl1 : i + 1 < b.length
    case neg =>
      have hib : b.length = i + 1 := by omega
      have hx : x = ([], [], 20) := by rw [HXR.out, hdr, ← hib, List.drop_length, rtext_z]
      have hibI : ((i : Int) + 1 == (b.length : Int)) = true := by simp; omega
      subst hx
      clear hib hdr hd
      go_wp2_with fail
      go_ret3
      exact ⟨⟨0, rfl, by simp⟩, hbel⟩
    obtain ⟨e, he, her⟩ := drop_head hl1
    obtain ⟨b2, o2, hA2, hc2⟩ := HC.out wr hbel (i + 1) e he
    cases hA2
    have hibI : ((i : Int) + 1 == (b.length : Int)) = false := by simp; omega
    have hl1I : (i : Int) + 1 < (b.length : Int) := by omega
    have HX2 : Hid (x = if e = 1 then (s, b.drop (i + 1 + 1), 0) else if e = 255 then rtext (s ++ [0]) (b.drop (i + 1 + 1)) else ([], [], 21)) := Lib.hid (by rw [HXR.out, hdr, her]; exact rtext_zz s _ e)
    clear hdr her hd
    by_cases he1 : e = 1
    · subst he1
      have hx : x = (s, b.drop (i + 1 + 1), 0) := HX2.out.trans (if_pos rfl)
      have hcv := conv_own hown
      subst hx
      go_wp2_with fail
      go_ret3
      exact ⟨⟨i + 1 + 1, by go_num, fun _ => ⟨by omega, rfl⟩⟩, hbel⟩
    have HX3 := Lib.hid (HX2.out.trans (if_neg he1))
    have he1I : ((e.toNat : Int) == 1) = false := by
      simp only [beq_eq_false_iff_ne, ne_eq]
      intro h
      exact he1 (UInt8.toNat_inj.1 (by show e.toNat = 1; omega))
    clear he1 HX2
    by_cases he2 : e = 255
    · subst he2
      have HX4 := Lib.hid (HX3.out.trans (if_pos rfl))
      go_wp2_with (at_builtin; refine wpList_app El_u8 rfl _ _ rfl (hown.alloc _) rfl rfl (by exact rd_one _ _ _ _ _ rfl (Nat.lt_add_one _)) rfl one_int (by unfold maxLen; omega) (by omega) (by simp; omega) ?_; intro v2 w3 hown3 hg3 ho3)
      have hb3 : Below w.heap.size w w3 := (hbel.alloc hbel.size _).trans (own_below (hown.alloc _) hg3 (by simp; omega))
      go_roundw
      case rel => exact ⟨i + 1 + 1, s ++ [0], by omega, by go_num, by simp; omega, by rw [cells_append, List.length_append, List.length_singleton]; exact hown3, HX4.out, hb3⟩
      case measure => simp [intOf]; omega
    · have hx : x = ([], [], 21) := HX3.out.trans (if_neg he2)
      have he2I : ((e.toNat : Int) != 255) = true := by
        simp only [bne_iff_ne, ne_eq]
        intro h
        exact he2 (UInt8.toNat_inj.1 (by show e.toNat = 255; omega))
      subst hx
      clear he2
      go_wp2_with fail
      go_ret3
      exact ⟨⟨0, rfl, by simp⟩, hbel⟩
end Go.Proofs.Ytdbhbfpfcdklmaa

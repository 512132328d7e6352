/- The walks of the reference for spans: Has, put, ends (layer 10). For at most 10^9 spans. -/
import Derived.Test.YtiohdacbnigpkaaSet5
import Derived.Test.YtiohdacbnigpkaaSetQ
namespace Go.Proofs.Ytiohdacbnigpkaa
open Go.RowKit Go.Maps
set_option linter.unusedVariables false
set_option linter.unusedSimpArgs false

theorem hasB_take {l : List S2} {k : Nat} {s : S2} (t : Int) (h : l[k]? = some s) : hasB (l.take (k + 1)) t = (hasB (l.take k) t || inS s t) := by
  rw [List.take_add_one, h, hasB_app]
  show _ = _
  simp [hasB]
theorem hasB_true {l : List S2} {k : Nat} {s : S2} {t : Int} (h : l[k]? = some s) (hi : inS s t = true) : hasB l t = true := hasB_iff.2 ⟨s, List.mem_of_getElem? h, inS_iff.1 hi⟩
set_option maxHeartbeats 1000000 in
set_option maxRecDepth 100000 in
theorem rHas_any (B : Nat) (A : Option Addr) (c : Nat) (l : List S2) (t : Int) (w : World) (hr : Rd w B A (scells l)) (hB : B ≤ w.heap.size) (hl : l.length ≤ 4000000000) :
    Calls Try.prog 30 #[.slice A l.length c, .int .i64 t] w fun e w' => e = .returned (.bool (hasB l t)) ∧ w = w' := by
  go_enter Try.func30, Try.ntmps30
  go_wp2
  go_loopw [5] (fun v5 wr => ∃ k : Nat, k ≤ l.length ∧ v5 = .int .i64 k ∧ hasB (l.take k) t = false ∧ w = wr) (fun v5 _ => l.length - (intOf v5).toNat)
  case atStart => exact ⟨0, by omega, rfl, rfl, rfl⟩
  case round =>
    obtain ⟨k, hk, rfl, hno, rfl⟩ := hrel
    have HNO := Lib.hid hno
    clear hno
    by_cases hlt : k < l.length
    case neg =>
      have hkk : k = l.length := by omega
      have hge : (l.length : Int) ≤ (k : Int) := by omega
      have he := HNO.out
      rw [hkk, List.take_length] at he
      have HE := Lib.hid he
      clear he hkk
      go_wp2_with fail
      go_ret
      exact ⟨by rw [HE.out]; rfl, rfl⟩
    obtain ⟨s, hs⟩ : ∃ v, l[k]? = some v := ⟨_, List.getElem?_eq_getElem hlt⟩
    obtain ⟨gb, go, rfl, hgb, q0, q1⟩ := rd_span hr hs
    have hkI : (k : Int) < (l.length : Int) := by omega
    have HT := Lib.hid (hasB_take t hs)
    have HY := Lib.hid (fun h => hasB_true (t := t) hs h)
    clear hs
    by_cases h1 : s.1 ≤ t
    · by_cases h2 : t < s.2
      · have HE := Lib.hid (HY.out (inS_iff.2 ⟨h1, h2⟩))
        go_wp2_with fail
        go_ret
        exact ⟨by rw [HE.out]; rfl, rfl⟩
      · have hi : inS s t = false := by rw [← Bool.not_eq_true, inS_iff]; omega
        have HE := Lib.hid (show hasB (l.take (k + 1)) t = false by rw [HT.out, HNO.out, hi]; rfl)
        clear hi
        go_wp2_with fail
        go_roundw
        case rel => exact ⟨k + 1, by omega, by go_num, HE.out, by trivial⟩
        case measure => simp [intOf]; omega
    · have hi : inS s t = false := by rw [← Bool.not_eq_true, inS_iff]; omega
      have HE := Lib.hid (show hasB (l.take (k + 1)) t = false by rw [HT.out, HNO.out, hi]; rfl)
      clear hi
      go_wp2_with fail
      go_roundw
      case rel => exact ⟨k + 1, by omega, by go_num, HE.out, by trivial⟩
      case measure => simp [intOf]; omega
end Go.Proofs.Ytiohdacbnigpkaa

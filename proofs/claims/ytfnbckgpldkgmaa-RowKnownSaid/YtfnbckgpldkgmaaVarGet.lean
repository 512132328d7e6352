/- The walks of varint.Get and of the reference's Get (layer 2): both answer vget. -/
import Derived.Test.YtfnbckgpldkgmaaVarPut
namespace Go.Proofs.Ytfnbckgpldkgmaa
open Go.RowKit

/-- what vget answers, as Go's three results -/
abbrev tri (t : Nat × Nat × Nat) : Value := .tuple #[.int .u64 (t.1 : Int), .int .i64 (t.2.1 : Int), .int .i64 (t.2.2 : Int)]

theorem rd_cell {w : World} {B : Nat} {A : Option Addr} {l : List UInt8} (h : Rd w B A (cells l)) {k : Nat} (hk : k < l.length) : ∃ b o, A = some ⟨b, o, none⟩ ∧ b < B ∧ ∀ j (hj : j < l.length), w.cell? ⟨b, o + j, none⟩ = some (.int .u8 (l[j].toNat : Int)) := by
  obtain ⟨b, o, hA, hb, hc⟩ := h.at (k := k) (by simpa using hk)
  exact ⟨b, o, hA, hb, fun j hj => hc j _ (by simp [hj])⟩

theorem or_step {acc k x : Nat} (hk : k ≤ 9) (hacc : acc < 128 ^ k) (hx : x < 128) (h9 : k = 9 → x ≤ 1) :
    bits .or .u64 (acc : Int) (IntKind.u64.wrap ((x : Int) * 2 ^ (7 * k))) = ((acc + x * 128 ^ k : Nat) : Int) := by
  have e : (2 : Int) ^ (7 * k) = ((128 ^ k : Nat) : Int) := by
    have : (2 : Int) ^ (7 * k) = ((2 ^ (7 * k) : Nat) : Int) := by simp
    rw [this, Nat.pow_mul]
  have hp : 128 ^ k ≤ 128 ^ 9 := Nat.pow_le_pow_right (by omega) hk
  have hv : x * 128 ^ k < 18446744073709551616 := by
    by_cases h : k = 9
    · subst h
      have : x * 128 ^ 9 ≤ 1 * 128 ^ 9 := Nat.mul_le_mul_right _ (h9 rfl)
      omega
    · have h8 : 128 ^ k ≤ 128 ^ 8 := Nat.pow_le_pow_right (by omega) (by omega)
      have : x * 128 ^ k ≤ 127 * 128 ^ 8 := Nat.mul_le_mul (by omega) h8
      omega
  rw [e, IntKind.wrap_u64, ← Int.natCast_mul, show (((x * 128 ^ k : Nat) : Int) % 18446744073709551616) = ((x * 128 ^ k : Nat) : Int) by omega, u64_or_nat _ _ (by omega) hv]
  congr 1
  rw [Nat.or_comm, Nat.add_comm]
  have e2 : (128 : Nat) ^ k = 2 ^ (7 * k) := by rw [Nat.pow_mul]
  rw [e2]
  rw [e2] at hacc
  exact nat_join (7 * k) _ _ (by simp) hacc

theorem acc_step {acc k x : Nat} (hacc : acc < 128 ^ k) (hx : x < 128) : acc + x * 128 ^ k < 128 ^ (k + 1) := by
  have : x * 128 ^ k ≤ 127 * 128 ^ k := Nat.mul_le_mul_right _ (by omega)
  rw [Nat.pow_succ]; omega

set_option maxHeartbeats 1000000 in
set_option maxRecDepth 100000 in
theorem Get_any (B : Nat) (A : Option Addr) (c : Nat) (l : List UInt8) (w : World) (h : Rd w B A (cells l)) (hl : l.length ≤ 4294967296) :
    Calls Try.prog 31 #[.slice A l.length c] w fun e w' => e = .returned (tri (vget l)) ∧ w = w' := by
  go_enter Try.func31, Try.ntmps31
  go_wp2
  go_loop [5, 8] (fun vv vi => ∃ (k acc : Nat), k ≤ 10 ∧ k ≤ l.length ∧ vi = .int .i64 k ∧ vv = .int .u64 acc ∧ acc < 128 ^ k ∧ vget l = vgetF (10 - k) k acc (l.drop k))
    (fun _ vi => (10 - intOf vi).toNat)
  case atStart => exact ⟨0, 0, by omega, by omega, rfl, rfl, by simp, rfl⟩
  case round =>
    obtain ⟨k, acc, hk, hkll, rfl, rfl, hacc, hget⟩ := hrel
    have HG := Lib.hid hget
    clear hget
    by_cases hk10 : k < 10
    · by_cases hkl : k < l.length
      · obtain ⟨b, o, rfl, hb, hc⟩ := rd_cell h hkl
        have hck := hc k hkl
        clear hc
        obtain ⟨x, hx⟩ : ∃ x, x = l[k] := ⟨_, rfl⟩
        rw [← hx] at hck
        have hX := Lib.hid hx
        clear hx
        have hx256 : x.toNat < 256 := x.toNat_lt
        have hand : bits .and .u8 (x.toNat : Int) 127 = ((x.toNat % 128 : Nat) : Int) := by
          rw [u8_and _ _ (by omega) (by omega) (by omega) (by omega)]
          have : (127 : Int).toNat = 127 := rfl
          rw [this, Int.toNat_natCast, nat_mask7]
        have hdrop : l.drop k = x :: l.drop (k + 1) := by rw [hX.out]; exact List.drop_eq_getElem_cons hkl
        obtain ⟨f, hf⟩ : ∃ f, 10 - k = f + 1 := ⟨9 - k, by omega⟩
        have hstep0 : (vget l = if k = 9 ∧ 1 < x.toNat then (0, 0, 21)
            else if x.toNat < 128 then (if x.toNat = 0 ∧ 0 < k then (0, 0, 21) else (acc + (x.toNat % 128) * 128 ^ k, k + 1, 0))
            else vgetF (10 - (k + 1)) (k + 1) (acc + (x.toNat % 128) * 128 ^ k) (l.drop (k + 1))) := by
          rw [HG.out, hdrop, hf, show 10 - (k + 1) = f by omega]
          simp only [vgetF]
        have hstep := Lib.hid hstep0
        clear hstep0 hdrop hf HG
        by_cases h9 : k = 9 ∧ 1 < x.toNat
        · obtain ⟨h9a, h9b⟩ := h9
          have hk9 : ((k : Int) == 9) = true := by simp; omega
          have hs : Hid (vget l = (0, 0, 21)) := by rw [hstep.out, if_pos ⟨h9a, h9b⟩]; rfl
          clear hstep h9a
          go_wp2
          go_ret3
          exact ⟨by rw [hs.out]; rfl, rfl⟩
        · have hstep2 : Hid (vget l = if x.toNat < 128 then (if x.toNat = 0 ∧ 0 < k then (0, 0, 21) else (acc + (x.toNat % 128) * 128 ^ k, k + 1, 0))
            else vgetF (10 - (k + 1)) (k + 1) (acc + (x.toNat % 128) * 128 ^ k) (l.drop (k + 1))) := by
            have := hstep.out
            rw [if_neg h9] at this; exact this
          clear hstep
          have hor := Lib.hid (or_step (acc := acc) (k := k) (x := x.toNat % 128) (by omega) hacc (by omega) (by omega))
          have hac := acc_step (k := k) (x := x.toNat % 128) hacc (by omega)
          have hk9 : (((k : Int) == 9) = false) ∨ (((k : Int) == 9) = true ∧ x.toNat ≤ 1) := by
            by_cases h : k = 9
            · exact .inr ⟨by simp; omega, by omega⟩
            · exact .inl (by simp; omega)
          clear h9
          by_cases h128 : x.toNat < 128
          · by_cases hz : x.toNat ≤ 0
            · by_cases hk0 : 0 < k
              · have hs : Hid (vget l = (0, 0, 21)) := by rw [hstep2.out, if_pos h128, if_pos ⟨by omega, hk0⟩]; rfl
                clear hstep2
                rcases hk9 with hk9 | ⟨hk9, hx1⟩ <;>
                · go_wp2
                  go_ret3
                  exact ⟨by rw [hs.out]; rfl, rfl⟩
              · have hs : Hid (vget l = (acc + (x.toNat % 128) * 128 ^ k, k + 1, 0)) := by rw [hstep2.out, if_pos h128, if_neg (by omega)]; rfl
                clear hstep2
                rcases hk9 with hk9 | ⟨hk9, hx1⟩
                · go_wp2
                  go_ret3
                  refine ⟨?_, rfl⟩
                  rw [hs.out]
                  refine congrArg (fun z => Ending.returned (.tuple #[.int .u64 z, .int .i64 ((k : Int) + 1), .int .i64 0])) ?_
                  have hor0 := hor.out
                  rw [show x.toNat % 128 = 0 by omega] at hor0 ⊢
                  simpa using hor0
                · simp at hk9; omega
            · have hz' : ((x.toNat : Int) == 0) = false := by simp; omega
              have hs : Hid (vget l = (acc + (x.toNat % 128) * 128 ^ k, k + 1, 0)) := by rw [hstep2.out, if_pos h128, if_neg (by omega)]; rfl
              clear hstep2
              rcases hk9 with hk9 | ⟨hk9, hx1⟩ <;>
              · go_wp2
                go_ret3
                refine ⟨?_, rfl⟩
                rw [hs.out]
                refine congrArg (fun z => Ending.returned (.tuple #[.int .u64 z, .int .i64 ((k : Int) + 1), .int .i64 0])) ?_
                exact hor.out
          · have hs : Hid (vget l = vgetF (10 - (k + 1)) (k + 1) (acc + (x.toNat % 128) * 128 ^ k) (l.drop (k + 1))) := by rw [hstep2.out, if_neg h128]; rfl
            clear hstep2
            rcases hk9 with hk9 | ⟨hk9, hx1⟩
            · go_wp2
              go_round
              case rel => exact ⟨k + 1, acc + (x.toNat % 128) * 128 ^ k, by omega, by omega, by go_num, congrArg (Value.int .u64) hor.out, hac, hs.out⟩
              case measure => simp [intOf]; omega
            · omega
      · have hs : Hid (vget l = (0, 0, 20)) := by
          rw [HG.out, List.drop_eq_nil_of_le (by omega)]
          obtain ⟨f, hf⟩ : ∃ f, 10 - k = f + 1 := ⟨9 - k, by omega⟩
          rw [hf]; rfl
        have hkl' : l.length ≤ k := by omega
        clear HG
        go_wp2
        go_ret3
        exact ⟨by rw [hs.out]; rfl, rfl⟩
    · have hs : Hid (vget l = (0, 0, 21)) := by
        rw [HG.out, show 10 - k = 0 by omega]; rfl
      clear HG
      go_wp2
      go_ret3
      exact ⟨by rw [hs.out]; rfl, rfl⟩

theorem vcnt_step (k : Nat) (c : UInt8) (l : List UInt8) : vcnt (k + 1) (c :: l) = if 128 ≤ c.toNat then 1 + vcnt k l else 0 := rfl

set_option maxHeartbeats 1000000 in
set_option maxRecDepth 100000 in
theorem rGet_any (B : Nat) (A : Option Addr) (c : Nat) (l : List UInt8) (w : World) (h : Rd w B A (cells l)) (hl : l.length ≤ 4294967296) :
    Calls Try.prog 38 #[.slice A l.length c] w fun e w' => e = .returned (tri (vget l)) ∧ w = w' := by
  go_enter Try.func38, Try.ntmps38
  go_wp2
  go_loop [5] (fun vi => ∃ k : Nat, k ≤ 10 ∧ k ≤ l.length ∧ vi = .int .i64 k ∧ vcnt 10 l = k + vcnt (10 - k) (l.drop k))
    (fun vi => (10 - intOf vi).toNat)
  case atStart => exact ⟨0, by omega, by omega, rfl, by simp⟩
  case round =>
    obtain ⟨k, hk, hkll, rfl, hcnt⟩ := hrel
    have HC := Lib.hid hcnt
    clear hcnt
    by_cases hgo : k < 10 ∧ ∃ hkl : k < l.length, 128 ≤ (l[k]).toNat
    · obtain ⟨hk10, hkl, h128⟩ := hgo
      obtain ⟨b, o, rfl, hb, hc⟩ := rd_cell h hkl
      have hck := hc k hkl
      clear hc
      obtain ⟨x, hx⟩ : ∃ x, x = l[k] := ⟨_, rfl⟩
      rw [← hx] at hck h128
      have hX := Lib.hid hx
      clear hx
      go_wp2
      go_round
      case rel =>
        refine ⟨k + 1, by omega, by omega, by go_num, ?_⟩
        obtain ⟨f, hf⟩ : ∃ f, 10 - k = f + 1 := ⟨9 - k, by omega⟩
        rw [HC.out, List.drop_eq_getElem_cons hkl, hf, vcnt_step, ← hX.out, if_pos h128, show 10 - (k + 1) = f by omega]
        omega
      case measure => simp [intOf]; omega
    · -- the count is k
      have hkc : vcnt 10 l = k := by
        rw [HC.out]
        rcases Nat.lt_or_ge k 10 with hk10 | hk10
        · obtain ⟨f, hf⟩ : ∃ f, 10 - k = f + 1 := ⟨9 - k, by omega⟩
          rcases Nat.lt_or_ge k l.length with hkl | hkl
          · rw [List.drop_eq_getElem_cons hkl, hf, vcnt_step, if_neg (fun h => hgo ⟨hk10, hkl, h⟩)]
            rfl
          · rw [List.drop_eq_nil_of_le hkl, hf]; rfl
        · rw [show 10 - k = 0 by omega]; rfl
      clear HC
      have href := vget_ref l
      rw [hkc] at href
      have HR := Lib.hid href
      have HK := Lib.hid hkc
      clear href hkc
      by_cases hlen : l.length ≤ k
      · by_cases hk10 : k < 10
        · have hs : Hid (vget l = (0, 0, 20)) := by rw [HR.out, if_pos ⟨by omega, hk10⟩]; rfl
          clear HR hgo
          go_wp2
          go_ret3
          exact ⟨by rw [hs.out]; rfl, rfl⟩
        · have hs : Hid (vget l = (0, 0, 21)) := by rw [HR.out, if_neg (by omega), if_pos (by omega)]; rfl
          clear HR hgo
          go_wp2
          go_ret3
          exact ⟨by rw [hs.out]; rfl, rfl⟩
      · have hkl : k < l.length := by omega
        by_cases hk10 : k < 10
        · have h128 : (l[k]).toNat < 128 := by
            rcases Nat.lt_or_ge (l[k]).toNat 128 with h | h
            · exact h
            · exact absurd ⟨hk10, hkl, h⟩ hgo
          clear hgo
          obtain ⟨b, o, rfl, hb, hc⟩ := rd_cell h hkl
          have hck := hc k hkl
          have hall := Lib.hid hc
          clear hc
          have hval := vget_mid l k HK.out hk10 hkl
          clear HR
          obtain ⟨x, hx⟩ : ∃ x, x = l[k] := ⟨_, rfl⟩
          rw [← hx] at hck h128 hval
          have HV := Lib.hid hval
          have hX := Lib.hid hx
          clear hx hval
          have hk9f : ((k : Int) == 10) = false := by simp; omega
          by_cases hbad : 9 ≤ k ∧ 1 < x.toNat
          · obtain ⟨h9a, h9b⟩ := hbad
            have hk9 : ((k : Int) == 9) = true := by simp; omega
            have hc9 : w.cell? ⟨b, o + 9, none⟩ = some (.int .u8 (x.toNat : Int)) := by rw [← hck]; congr 2; omega
            have hs : Hid (vget l = (0, 0, 21)) := by rw [HV.out, if_pos (.inl ⟨by omega, h9b⟩)]; rfl
            have h9len : 9 < l.length := by omega
            clear HV
            go_wp2
            go_ret3
            exact ⟨by rw [hs.out]; rfl, rfl⟩
          · have hx1 : k = 9 → x.toNat ≤ 1 := by omega
            have hx9 : (9 : Int) = (k : Int) → x.toNat ≤ 1 := by omega
            by_cases hz : 0 < k ∧ x.toNat = 0
            · obtain ⟨hk0, hxz⟩ := hz
              have hs : Hid (vget l = (0, 0, 21)) := by rw [HV.out, if_pos (.inr ⟨hk0, hxz⟩)]; rfl
              have hxz' : ((x.toNat : Int) == 0) = true := by simp; omega
              have hxle : x.toNat ≤ 1 := by omega
              clear HV hxz
              by_cases h9 : 9 ≤ k
              · have hk9 : ((k : Int) == 9) = true := by simp; omega
                have hc9 : w.cell? ⟨b, o + 9, none⟩ = some (.int .u8 (x.toNat : Int)) := by rw [← hck]; congr 2; omega
                have h9len : 9 < l.length := by omega
                go_wp2
                go_ret3
                exact ⟨by rw [hs.out]; rfl, rfl⟩
              · have hk9 : ((k : Int) == 9) = false := by simp; omega
                go_wp2
                go_ret3
                exact ⟨by rw [hs.out]; rfl, rfl⟩
            · have hs0 : vget l = (vval (l.take (k + 1)), k + 1, 0) := by
                rw [HV.out, if_neg]
                rintro (h | h)
                · omega
                · exact hz h
              have hbd : vval (l.take (k + 1)) < 18446744073709551616 := by
                have := (vget_val l).1
                rw [hs0] at this; exact this
              have hs := Lib.hid hs0
              clear HV hs0
              have hzz : (k : Int) ≤ 0 ∨ ((x.toNat : Int) == 0) = false := by
                rcases Nat.eq_zero_or_pos k with h | h
                · exact .inl (by omega)
                · refine .inr ?_
                  simp; omega
              have hways : ((k : Int) == 9) = false ∧ (k : Int) ≤ 0 ∨ ((k : Int) == 9) = false ∧ ((x.toNat : Int) == 0) = false ∧ 0 < k ∨ (9 ≤ k ∧ ((k : Int) == 9) = true ∧ ((x.toNat : Int) == 0) = false ∧ w.cell? ⟨b, o + 9, none⟩ = some (.int .u8 (x.toNat : Int)) ∧ 9 < l.length ∧ x.toNat ≤ 1) := by
                rcases Nat.lt_or_ge k 9 with h | h
                · have hk9 : ((k : Int) == 9) = false := by simp; omega
                  rcases Nat.eq_zero_or_pos k with h0 | h0
                  · exact .inl ⟨hk9, by omega⟩
                  · exact .inr (.inl ⟨hk9, hzz.resolve_left (by omega), h0⟩)
                · refine .inr (.inr ⟨h, by simp; omega, hzz.resolve_left (by omega), ?_, by omega, by omega⟩)
                  rw [← hck]; congr 2; omega
              clear hzz hz hx9 hx1 hbad
              rcases hways with ⟨hk9, hz0⟩ | ⟨hk9, hz0, hk0⟩ | ⟨h9k, hk9, hz0, hc9, h9len, hx1⟩
              all_goals
                go_wp2
                go_loop [6, 7] (fun vv vi => ∃ i : Int, -1 ≤ i ∧ i ≤ k ∧ vi = .int .i64 i ∧ vv = .int .u64 (vval ((l.take (k + 1)).drop (i + 1).toNat)))
                  (fun _ vi => (intOf vi + 1).toNat)
                case atStart =>
                  refine ⟨k, by omega, by omega, rfl, ?_⟩
                  rw [List.drop_eq_nil_of_le (by simp; omega)]; rfl
                case round =>
                  obtain ⟨i, hi1, hi2, rfl, rfl⟩ := hrel
                  by_cases hi : 0 ≤ i
                  · obtain ⟨m, rfl⟩ := Int.eq_ofNat_of_zero_le hi
                    have hmk : m ≤ k := by omega
                    have hml : m < l.length := by omega
                    have hcm := hall.out m hml
                    have hvd := vval_drop (l.take (k + 1)) m (by simp; omega)
                    rw [List.getElem_take] at hvd
                    have hvle := vval_le (l.take (k + 1)) m
                    have e1 : ((m : Int) + 1).toNat = m + 1 := by omega
                    rw [e1]
                    obtain ⟨y, hy⟩ : ∃ y, y = l[m] := ⟨_, rfl⟩
                    rw [← hy] at hcm hvd
                    obtain ⟨V, hV⟩ : ∃ V, V = vval ((l.take (k + 1)).drop (m + 1)) := ⟨_, rfl⟩
                    rw [← hV] at hvd ⊢
                    have hbV : V * 128 + y.toNat % 128 < 18446744073709551616 := by omega
                    have HD := Lib.hid hvd
                    have HV2 := Lib.hid hV
                    have hy256 : y.toNat < 256 := y.toNat_lt
                    clear hvd hV hvle hy e1 hck
                    go_wp2
                    go_round
                    case rel =>
                      refine ⟨(m : Int) - 1, by omega, by omega, rfl, ?_⟩
                      have e2 : ((m : Int) - 1 + 1).toNat = m := by omega
                      rw [e2, HD.out]
                      refine congrArg (Value.int .u64) ?_
                      omega
                    case measure => simp [intOf]
                  · have e1 : (i + 1).toNat = 0 := by omega
                    rw [e1, List.drop_zero]
                    have hi' : i < 0 := by omega
                    clear e1 hi
                    go_wp2
                    go_ret3
                    exact ⟨by first | (rw [hs.out]; done) | (rw [hs.out]; rfl), rfl⟩
        · have hs : Hid (vget l = (0, 0, 21)) := by rw [HR.out, if_neg (by omega), if_pos (by omega)]; rfl
          obtain ⟨b, o, rfl, hb, hc⟩ := rd_cell h hkl
          have hck := hc k hkl
          clear HR hgo hc
          go_wp2
          go_ret3
          exact ⟨by rw [hs.out]; rfl, rfl⟩
end Go.Proofs.Ytfnbckgpldkgmaa

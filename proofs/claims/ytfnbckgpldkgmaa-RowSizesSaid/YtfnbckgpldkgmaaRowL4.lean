/- The law RowSizes (layer 4), walked: true for every input. No condition. -/
import Derived.Test.YtfnbckgpldkgmaaRowL3
namespace Go.Proofs.Ytfnbckgpldkgmaa
open Go.RowKit Go.Maps
set_option linter.unusedVariables false
set_option linter.unusedSimpArgs false

def lo1 (v : V) : Nat := if v.k = 1 then 1 else if v.k = 2 then 1 else if v.k = 3 then 1 + v.t.length else 0
def hi1 (v : V) : Nat := if v.k = 1 then 1 else if v.k = 2 then 10 else if v.k = 3 then 2 + v.t.length else 0
def loS (l : List V) : Nat := (l.map lo1).sum
def hiS (l : List V) : Nat := (l.map hi1).sum
theorem one_bd {v : V} (hm : mayB v = true) (hn : i64r v.n) (ht : v.t.length ≤ 400) : lo1 v ≤ (vone v).length ∧ (vone v).length ≤ hi1 v := by
  obtain ⟨k, n, t⟩ := v
  dsimp only at hn ht
  rcases mayB_cs _ hm with ⟨h, h1⟩ | ⟨h1, hn1, h2⟩ | ⟨h1, h2⟩ | ⟨h1, h2⟩
  · rw [h1]; decide
  · dsimp only at h1; subst h1; exact ⟨Nat.le_refl _, Nat.le_refl _⟩
  · dsimp only at h1; subst h1
    have hz := zig_bd n hn.1 hn.2
    have h3 := vput_length64 (show (zig n).toNat < 18446744073709551616 by omega)
    have h4 := vput_pos (zig n).toNat
    exact ⟨h4, h3⟩
  · dsimp only at h1; subst h1
    have h3 := vput_length 1 t.length (by omega)
    have h4 := vput_pos t.length
    show 1 + t.length ≤ (vput t.length ++ t).length ∧ (vput t.length ++ t).length ≤ 2 + t.length
    rw [List.length_append]; omega
theorem sum_bd : ∀ l : List V, (∀ v ∈ l, mayB v = true ∧ i64r v.n ∧ v.t.length ≤ 400) → loS l ≤ (l.flatMap vone).length ∧ (l.flatMap vone).length ≤ hiS l
  | [], _ => by simp [loS, hiS]
  | v :: l, h => by
    have h1 := one_bd (h v (by simp)).1 (h v (by simp)).2.1 (h v (by simp)).2.2
    have h2 := sum_bd l fun u hu => h u (by simp [hu])
    simp only [loS, hiS, List.map_cons, List.sum_cons, List.flatMap_cons, List.length_append] at *
    omega
theorem hi1_le {v : V} (ht : v.t.length ≤ 400) : hi1 v ≤ 402 ∧ lo1 v ≤ 402 := by
  unfold hi1 lo1
  refine ⟨?_, ?_⟩
  · split
    · omega
    split
    · omega
    split <;> omega
  · split
    · omega
    split
    · omega
    split <;> omega
theorem S_more {l : List V} {k : Nat} {v : V} (h : l[k]? = some v) : loS (l.take (k + 1)) = loS (l.take k) + lo1 v ∧ hiS (l.take (k + 1)) = hiS (l.take k) + hi1 v := by
  unfold loS hiS
  rw [List.take_add_one, h]
  simp
theorem S_le : ∀ (l : List V), (∀ v ∈ l, v.t.length ≤ 400) → loS l ≤ l.length * 402 ∧ hiS l ≤ l.length * 402
  | [], _ => by simp [loS, hiS]
  | v :: l, h => by
    have h1 := hi1_le (h v (by simp))
    have h2 := S_le l fun u hu => h u (by simp [hu])
    simp only [loS, hiS, List.map_cons, List.sum_cons, List.length_cons, Nat.add_mul, Nat.one_mul] at *
    omega

set_option maxHeartbeats 8000000 in
set_option maxRecDepth 100000 in
theorem rowSizes_walk (A : Option Addr) (c : Nat) (T : List UInt8) (A' : Option Addr) (c' : Nat) (l : List V) (W : World) (hT : Rd W W.heap.size A (cells T)) (hTc : T.length ≤ c ∧ c ≤ maxLen)
    (hl : Rd W W.heap.size A' (vcells l)) (hlc : l.length ≤ c' ∧ c' ≤ maxLen) (hok : ∀ v ∈ l, vok v) :
    Calls Try.prog 7 #[.slice A T.length c, .slice A' l.length c'] W fun e w' => e = .returned (.bool true) ∧ Below W.heap.size W w' := by
  have KL := Lib.hid (fun w h hB => long_any W.heap.size A A' c c' T l w h hB)
  obtain ⟨lg, hlg⟩ : ∃ x, x = lngR T l := ⟨_, rfl⟩
  rw [← hlg] at KL
  rcases lg with _ | _
  case true =>
    clear hlg
    go_enter Try.func7, Try.ntmps7
    go_wp2_with fail
    refine (KL.out W hl (Nat.le_refl _)).mono ?_; rintro e w1 ⟨rfl, rfl⟩
    go_wp2_with fail
    go_ret
    exact ⟨rfl, Below.refl _ _⟩
  obtain ⟨hT60, hl60, ht⟩ := lngR_false hlg.symm
  have hrb := rb_len hl60 hok ht
  have HOK := Lib.hid (vok3 hok ht)
  have P1 := fun (w : World) h1 h2 hB => Put_row W.heap.size A A' c c' T l w h1 h2 hB (by omega) (by omega) HOK.out (by omega)
  have hrp : rput T l = if knownT T && rowok T l then (rbytes l, 0) else ([], 1) := rfl
  obtain ⟨kr, hkr⟩ : ∃ x, x = (knownT T && rowok T l) := ⟨_, rfl⟩
  rw [← hkr] at hrp
  cases kr
  case false =>
    rw [hrp] at P1
    have H1 := Lib.hid P1
    clear P1 hrp hlg ht hok hkr hrb
    go_enter Try.func7, Try.ntmps7
    go_wp2_with fail
    refine (KL.out W hl (Nat.le_refl _)).mono ?_; rintro e w1 ⟨rfl, rfl⟩
    go_wp2_with fail
    refine (H1.out W hT hl (Nat.le_refl _)).mono ?_; rintro e w1 ⟨A5, c5, rfl, hown5, hb1⟩
    go_wp2_with fail
    refine (puts_any w1).mono ?_; rintro e w8 ⟨rfl, hb8⟩
    have hb08 : Below W.heap.size W w8 := hb1.trans (hb8.mono hb1.size)
    go_wp2_with fail
    go_ret
    exact ⟨rfl, hb08⟩
  rw [hrp] at P1
  have hro : rowok T l = true := by
    have := hkr.symm; rw [Bool.and_eq_true] at this; exact this.2
  have hmay := row_may hro
  have hsum := sum_bd l fun v hv => ⟨hmay v hv, (hok v hv).2.1, ht v hv⟩
  have hSle : ∀ k, loS (l.take k) ≤ 60 * 402 ∧ hiS (l.take k) ≤ 60 * 402 := fun k => by
    have h := S_le (l.take k) fun v hv => ht v (List.mem_of_mem_take hv)
    have h2 : (l.take k).length * 402 ≤ 60 * 402 := Nat.mul_le_mul_right _ (by rw [List.length_take]; omega)
    omega
  have hrl : (rbytes l).length = size8 l.length + (l.flatMap vone).length := by unfold rbytes; rw [List.length_append, layP_length]
  obtain ⟨n, hn⟩ : ∃ n, n = l.length := ⟨_, rfl⟩
  obtain ⟨s, hs⟩ : ∃ s, s = size8 n := ⟨_, rfl⟩
  have hs1 : s ≤ n + 7 := by rw [hs]; unfold size8; omega
  have hsI : ((n : Int) + 7) / 8 = (s : Int) := by rw [hs]; unfold size8; omega
  obtain ⟨bs, hbs⟩ : ∃ x, x = rbytes l := ⟨_, rfl⟩
  rw [← hbs] at P1 hrb hrl
  rw [← hn, ← hs] at hrl
  rw [← hn] at P1 hl60 ⊢
  rw [← hn] at KL
  have H1 := Lib.hid P1
  have HN := Lib.hid hn
  have HSUM := Lib.hid hsum
  have HRL := Lib.hid hrl
  have HSLE := Lib.hid hSle
  have HT400 := Lib.hid ht
  have HMAY := Lib.hid hmay
  clear P1 hrp hlg hok hkr hn hs hbs hro hsum hrl hSle ht hmay
  go_enter Try.func7, Try.ntmps7
  go_wp2_with fail
  refine (KL.out W hl (Nat.le_refl _)).mono ?_; rintro e w1 ⟨rfl, rfl⟩
  go_wp2_with fail
  refine (H1.out W hT hl (Nat.le_refl _)).mono ?_; rintro e w1 ⟨A5, c5, rfl, hown5, hb1⟩
  dsimp only at hown5 ⊢
  clear hown5
  go_wp2_with fail
  rw [hsI]
  go_loopw [7, 8, 9] (fun v7 v8 v9 wr => ∃ k : Nat, k ≤ n ∧ v9 = .int .i64 k ∧ v7 = .int .i64 ((s + loS (l.take k) : Nat) : Int) ∧ v8 = .int .i64 ((s + hiS (l.take k) : Nat) : Int) ∧ w1 = wr) (fun _ _ v9 _ => n - (intOf v9).toNat)
  case atStart => exact ⟨0, by omega, rfl, by simp [loS], by simp [hiS], rfl⟩
  case round =>
    obtain ⟨k, hk, rfl, rfl, rfl, rfl⟩ := hrel
    have hle := HSLE.out k
    by_cases hlt : k < n
    case neg =>
      have hkn : k = n := by omega
      have hge : (n : Int) ≤ (k : Int) := by omega
      have e1 : s + loS (l.take k) ≤ bs.length := by
        rw [HRL.out, hkn, HN.out, List.take_length]; have := HSUM.out.1; omega
      have e2 : bs.length ≤ s + hiS (l.take k) := by
        rw [HRL.out, hkn, HN.out, List.take_length]; have := HSUM.out.2; omega
      obtain ⟨a, ha⟩ : ∃ a, a = s + loS (l.take k) := ⟨_, rfl⟩
      obtain ⟨b, hb⟩ : ∃ a, a = s + hiS (l.take k) := ⟨_, rfl⟩
      rw [← ha] at e1 ⊢
      rw [← hb] at e2 ⊢
      have e1I : (a : Int) ≤ (bs.length : Int) := by omega
      have e2I : (bs.length : Int) ≤ (b : Int) := by omega
      clear ha hb hkn hle
      go_wp2_with fail
      refine (puts_any w1).mono ?_; rintro e w8 ⟨rfl, hb8⟩
      have hb08 : Below W.heap.size W w8 := hb1.trans (hb8.mono hb1.size)
      go_wp2_with fail
      go_ret
      exact ⟨rfl, hb08⟩
    obtain ⟨v, hv⟩ : ∃ v, l[k]? = some v := ⟨_, List.getElem?_eq_getElem (by rw [← HN.out]; exact hlt)⟩
    obtain ⟨gb, go, rfl, hgb, q0, q1, q2⟩ := rd_val hl hv
    have r0 := (hb1.cell (p := ⟨gb, go + k * 3, none⟩) (by show gb < _; omega)).trans q0
    have r2 := (hb1.cell (p := ⟨gb, go + k * 3 + 2, none⟩) (by show gb < _; omega)).trans q2
    have hkI : (k : Int) < (n : Int) := by omega
    have ht4 := HT400.out v (List.mem_of_getElem? hv)
    have hmv := HMAY.out v (List.mem_of_getElem? hv)
    obtain ⟨m1, m2⟩ := S_more hv
    have hk3 : v.k = 0 ∨ v.k = 1 ∨ v.k = 2 ∨ v.k = 3 := by rcases mayB_cs v hmv with h | h | h | h <;> omega
    obtain ⟨a, ha⟩ : ∃ a, a = s + loS (l.take k) := ⟨_, rfl⟩
    obtain ⟨b, hb⟩ : ∃ a, a = s + hiS (l.take k) := ⟨_, rfl⟩
    have ha2 : a ≤ 30000 := by omega
    have hb2 : b ≤ 30000 := by omega
    have n1 : s + loS (l.take (k + 1)) = a + lo1 v := by omega
    have n2 : s + hiS (l.take (k + 1)) = b + hi1 v := by omega
    rw [← ha, ← hb]
    have N1 := Lib.hid n1
    have N2 := Lib.hid n2
    obtain ⟨vk, vn, vt⟩ := v
    dsimp only at r0 r2 hk3 ht4
    clear q0 q1 q2 hv hmv m1 m2 n1 n2 ha hb hle
    rcases hk3 with rfl | rfl | rfl | rfl
    · go_wp2_with fail
      go_roundw
      case rel => exact ⟨k + 1, by omega, by go_num, by rw [N1.out]; rfl, by rw [N2.out]; rfl, trivial⟩
      case measure => simp [intOf]; omega
    · go_wp2_with fail
      go_roundw
      case rel => exact ⟨k + 1, by omega, by go_num, by rw [N1.out]; go_num, by rw [N2.out]; go_num, trivial⟩
      case measure => simp [intOf]; omega
    · go_wp2_with fail
      go_roundw
      case rel => exact ⟨k + 1, by omega, by go_num, by rw [N1.out]; go_num, by rw [N2.out]; go_num, trivial⟩
      case measure => simp [intOf]; omega
    · go_wp2_with fail
      go_roundw
      case rel => exact ⟨k + 1, by omega, by go_num, by rw [N1.out, show lo1 ⟨3, vn, vt⟩ = 1 + vt.length from rfl]; go_num, by rw [N2.out, show hi1 ⟨3, vn, vt⟩ = 2 + vt.length from rfl]; go_num, trivial⟩
      case measure => simp [intOf]; omega
end Go.Proofs.Ytfnbckgpldkgmaa

/- The walks of row.known, row.may and of the reference's Types and Row (layer 4). No condition but sizes. -/
import Derived.Test.YtfnbckgpldkgmaaRowP
import Derived.Test.YtfnbckgpldkgmaaTools
import Derived.Test.YtfnbckgpldkgmaaVarGet
namespace Go.Proofs.Ytfnbckgpldkgmaa
open Go.RowKit Go.Maps
set_option linter.unusedVariables false
set_option linter.unusedSimpArgs false

theorem all_more {α : Type} {p : α → Bool} {l : List α} {k : Nat} {x : α} (h : ∀ y ∈ l.take k, p y = true) (hx : l[k]? = some x) (hp : p x = true) : ∀ y ∈ l.take (k + 1), p y = true := by
  intro y hy
  rw [List.take_add_one, hx] at hy
  rcases List.mem_append.1 hy with h1 | h1
  · exact h y h1
  · simp at h1; subst h1; exact hp
theorem all_no {α : Type} {p : α → Bool} {l : List α} {k : Nat} {x : α} (hx : l[k]? = some x) (hp : p x = false) : l.all p = false := by
  rw [List.all_eq_false]
  exact ⟨x, List.mem_of_getElem? hx, by simp [hp]⟩
theorem all_yes {α : Type} {p : α → Bool} {l : List α} (h : ∀ y ∈ l.take l.length, p y = true) : l.all p = true := by
  rw [List.take_length] at h
  rw [List.all_eq_true]; exact h
theorem tyok_cases (x : UInt8) : (tyok x = true ∧ (x.toNat = 1 ∨ x.toNat = 2 ∨ x.toNat = 3)) ∨ (tyok x = false ∧ (x.toNat < 1 ∨ 3 < x.toNat)) := by
  unfold tyok
  simp only [Bool.or_eq_true, decide_eq_true_eq, Bool.or_eq_false_iff, decide_eq_false_iff_not]
  omega

set_option maxRecDepth 100000 in
theorem known_any (B : Nat) (A : Option Addr) (c : Nat) (T : List UInt8) (w : World) (h : Rd w B A (cells T)) (hll : T.length ≤ maxLen) :
    Calls Try.prog 18 #[.slice A T.length c] w fun e w' => e = .returned (.bool (knownT T)) ∧ w = w' := by
  unfold maxLen at hll
  obtain ⟨bl, hbl⟩ : ∃ b, b = knownT T := ⟨_, rfl⟩
  have HBL := Lib.hid hbl
  rw [← hbl]
  clear hbl
  go_enter Try.func18, Try.ntmps18
  go_wp2
  go_loop [7] (fun v7 => ∃ k : Nat, k ≤ T.length ∧ v7 = .int .i64 k ∧ ∀ x ∈ T.take k, tyok x = true) (fun v7 => T.length - (intOf v7).toNat)
  case atStart => exact ⟨0, by omega, rfl, by simp⟩
  case round =>
    obtain ⟨k, hk, rfl, hall⟩ := hrel
    have HALL := Lib.hid hall
    clear hall
    by_cases hlt : k < T.length
    · obtain ⟨b, o, rfl, hb, hc⟩ := rd_cell h hlt
      have hck := hc k hlt
      obtain ⟨x, hx⟩ : ∃ x, x = T[k] := ⟨_, rfl⟩
      rw [← hx] at hck
      have HX := Lib.hid (show T[k]? = some x by rw [hx]; exact List.getElem?_eq_getElem hlt)
      clear hc hx
      rcases tyok_cases x with ⟨ht, h1⟩ | ⟨ht, h1⟩
      · have h1 : 1 ≤ x.toNat ∧ x.toNat ≤ 3 := by omega
        have HT := Lib.hid ht
        clear ht
        go_wp2
        go_round
        case rel => exact ⟨k + 1, by omega, by go_num, all_more HALL.out HX.out HT.out⟩
        case measure => simp [intOf]; omega
      · have he : bl = false := by rw [HBL.out]; exact all_no HX.out ht
        subst he
        clear ht
        rcases h1 with h1 | h1
        · go_wp2
          go_ret
          exact ⟨rfl, rfl⟩
        · go_wp2
          go_ret
          exact ⟨rfl, rfl⟩
    · have hkk : k = T.length := by omega
      have he : bl = true := by rw [HBL.out]; exact all_yes (hkk ▸ HALL.out)
      subst he
      subst hkk
      go_wp2
      go_ret
      exact ⟨rfl, rfl⟩

set_option maxRecDepth 100000 in
theorem Types_any (B : Nat) (A : Option Addr) (c : Nat) (T : List UInt8) (w : World) (h : Rd w B A (cells T)) (hll : T.length ≤ maxLen) :
    Calls Try.prog 16 #[.slice A T.length c] w fun e w' => e = .returned (.bool (knownT T)) ∧ w = w' := by
  unfold maxLen at hll
  obtain ⟨bl, hbl⟩ : ∃ b, b = knownT T := ⟨_, rfl⟩
  have HBL := Lib.hid hbl
  rw [← hbl]
  clear hbl
  go_enter Try.func16, Try.ntmps16
  go_wp2
  go_loop [3] (fun v3 => ∃ k : Nat, k ≤ T.length ∧ v3 = .int .i64 k ∧ ∀ x ∈ T.take k, tyok x = true) (fun v3 => T.length - (intOf v3).toNat)
  case atStart => exact ⟨0, by omega, rfl, by simp⟩
  case round =>
    obtain ⟨k, hk, rfl, hall⟩ := hrel
    have HALL := Lib.hid hall
    clear hall
    by_cases hlt : k < T.length
    · obtain ⟨b, o, rfl, hb, hc⟩ := rd_cell h hlt
      have hck := hc k hlt
      obtain ⟨x, hx⟩ : ∃ x, x = T[k] := ⟨_, rfl⟩
      rw [← hx] at hck
      have HX := Lib.hid (show T[k]? = some x by rw [hx]; exact List.getElem?_eq_getElem hlt)
      clear hc hx
      rcases tyok_cases x with ⟨ht, h1⟩ | ⟨ht, h1⟩
      · have HT := Lib.hid ht
        clear ht
        rcases h1 with h1 | h1 | h1
        · rw [h1] at hck
          go_wp2
          go_round
          case rel => exact ⟨k + 1, by omega, by go_num, all_more HALL.out HX.out HT.out⟩
          case measure => simp [intOf]; omega
        · rw [h1] at hck
          go_wp2
          go_round
          case rel => exact ⟨k + 1, by omega, by go_num, all_more HALL.out HX.out HT.out⟩
          case measure => simp [intOf]; omega
        · rw [h1] at hck
          go_wp2
          go_round
          case rel => exact ⟨k + 1, by omega, by go_num, all_more HALL.out HX.out HT.out⟩
          case measure => simp [intOf]; omega
      · have he : bl = false := by rw [HBL.out]; exact all_no HX.out ht
        subst he
        clear ht
        have e1 : ((x.toNat : Int) != 1) = true := by simp; omega
        have e2 : ((x.toNat : Int) != 2) = true := by simp; omega
        have e3 : ((x.toNat : Int) != 3) = true := by simp; omega
        clear h1
        go_wp2
        go_ret
        exact ⟨rfl, rfl⟩
    · have hkk : k = T.length := by omega
      have he : bl = true := by rw [HBL.out]; exact all_yes (hkk ▸ HALL.out)
      subst he
      subst hkk
      go_wp2
      go_ret
      exact ⟨rfl, rfl⟩

theorem esc_le3 : ∀ t : List UInt8, (esc t).length ≤ 2 * t.length
  | [] => by simp [esc]
  | c :: t => by
    have := esc_le3 t
    simp only [esc]; split <;> simp <;> omega
theorem be_len3 : ∀ k u, (be k u).length = k
  | 0, _ => rfl
  | k + 1, u => by simp [be, be_len3 k u]
theorem kone_le3 (v : V) : (kone v).length ≤ 9 + 2 * v.t.length := by
  unfold kone
  have := esc_le3 v.t
  split
  · simp; omega
  split
  · simp; omega
  split
  · simp [be_len3]
  · simp; omega

set_option maxHeartbeats 1000000 in
set_option maxRecDepth 100000 in
theorem rmay_any (t : UInt8) (v : V) (hk : v.k < 256) (hn : i64r v.n) (ht : v.t.length ≤ 1000000) (w : World) :
    Calls Try.prog 20 #[b8 t, va v] w fun e w' => e = .returned (.bool (rmay t v)) ∧ Below w.heap.size w w' := by
  have hv : ∀ (W : World), Rd (W.alloc (.cells #[.int .u8 (v.k : Int), .int .i64 v.n, txt v.t] 37)) (W.heap.size + 1) (some ⟨W.heap.size, 0, none⟩) (vcells [v]) := fun W => by
    have h := cv_three (T := 37) (w := W) v rfl
    simpa [vcells] using h
  have hle := kone_le3 v
  have K0 := fun (o : Obj) => Append_any ((w.alloc o).heap.size + 1) none (some ⟨(w.alloc o).heap.size, 0, none⟩) 0 1 [] [v] ((w.alloc o).alloc (.cells #[.int .u8 (v.k : Int), .int .i64 v.n, txt v.t] 37)) (.inl rfl) (hv (w.alloc o)) (by simp) (by simp; omega) (by simp) (by
    intro u hu; simp at hu; subst hu; exact ⟨hk, hn⟩)
  simp only [World.size_alloc, List.length_nil, List.length_cons, Nat.zero_add] at K0
  obtain ⟨r, hr⟩ : ∃ r, r = kapp [] [v] := ⟨_, rfl⟩
  rw [← hr] at K0
  have HK := Lib.hid K0
  have her : r.2 = if mayB v then 0 else 1 := by
    rw [hr]; unfold kapp
    by_cases hm : mayB v = true
    · simp [hm]
    · simp [hm]
  obtain ⟨r1, r2⟩ := r
  dsimp only at her
  have HR := Lib.hid her
  clear hv K0 hr her hle
  obtain ⟨bl, hbl⟩ : ∃ b, b = rmay t v := ⟨_, rfl⟩
  have HBL := Lib.hid hbl
  rw [← hbl]
  clear hbl
  have ht256 := t.toNat_lt
  obtain ⟨k, n, tx⟩ := v
  dsimp only at hk hn ht HK HR HBL ⊢
  have hbl := HBL.out
  unfold rmay at hbl
  dsimp only at hbl
  cases hm : mayB ⟨k, n, tx⟩
  · have hr2 := HR.out
    rw [hm] at hr2
    simp at hr2
    subst hr2
    rw [hm] at hbl
    simp at hbl
    subst hbl
    clear hm HBL HR
    go_enter Try.func20, Try.ntmps20
    go_wp2_with fail
    refine (HK.out _).mono ?_; rintro e w2 ⟨A2, c2, rfl, hown2, hb2⟩
    have hb : Below w.heap.size w w2 := (((Below.refl _ w).alloc (Nat.le_refl _) _).alloc (by simp) _).trans (hb2.mono (by simp; omega))
    clear hown2
    go_wp2_with fail
    go_ret
    exact ⟨rfl, hb⟩
  · have hr2 := HR.out
    rw [hm] at hr2
    simp at hr2
    subst hr2
    rw [hm] at hbl
    simp only [Bool.true_and] at hbl
    clear hm HBL HR
    by_cases h0 : k = 0
    · have he : bl = true := by rw [hbl]; simp [h0]
      subst he
      clear hbl
      subst h0
      go_enter Try.func20, Try.ntmps20
      go_wp2_with fail
      refine (HK.out _).mono ?_; rintro e w2 ⟨A2, c2, rfl, hown2, hb2⟩
      have hb : Below w.heap.size w w2 := (((Below.refl _ w).alloc (Nat.le_refl _) _).alloc (by simp) _).trans (hb2.mono (by simp; omega))
      have d0 : w2.cell? ⟨w.heap.size, 0, none⟩ = some (.int .u8 ((0 : Nat) : Int)) := cell_be (by simp [go_sem]) hb2 (by simp; omega)
      clear hown2
      go_wp2_with fail
      go_ret
      exact ⟨rfl, hb⟩
    · have e0 : ((k : Int) == 0) = false := by simp; omega
      have hq : ((k : Int) == (t.toNat : Int)) = bl := by
        rw [hbl]
        simp only [h0, decide_false, Bool.false_or]
        by_cases hkt : k = t.toNat
        · simp [hkt]
        · rw [decide_eq_false hkt]; simp; omega
      have HQ := Lib.hid hq
      clear hbl h0 hq
      go_enter Try.func20, Try.ntmps20
      go_wp2_with fail
      refine (HK.out _).mono ?_; rintro e w2 ⟨A2, c2, rfl, hown2, hb2⟩
      have hb : Below w.heap.size w w2 := (((Below.refl _ w).alloc (Nat.le_refl _) _).alloc (by simp) _).trans (hb2.mono (by simp; omega))
      have d0 : w2.cell? ⟨w.heap.size, 0, none⟩ = some (.int .u8 (k : Int)) := cell_be (by simp [go_sem]) hb2 (by simp; omega)
      clear hown2
      go_wp2_with fail
      go_ret
      exact ⟨by rw [← HQ.out]; rfl, hb⟩
end Go.Proofs.Ytfnbckgpldkgmaa

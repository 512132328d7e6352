/- Joined texts: see the remark ahead of each part. No condition but those that the parts name. -/
import Derived.Test.YthkpgjcnnfdibaaKys
import Derived.Test.YthkpgjcnnfdibaaVrs
import Derived.Lib.AppendStr
/-! The walks of row.known, row.may and of the reference's Types and Row (layer 4). No condition but sizes. -/
namespace Go.Proofs.Ythkpgjcnnfdibaa.Rw
open Go.RowKit Go.Maps
set_option linter.unusedVariables false
set_option linter.unusedSimpArgs false

theorem all_more {α : Type} {p : α → Bool} {l : List α} {k : Nat} {x : α} (h : ∀ y ∈ l.take k, p y = true) (hx : l[k]? = some x) (hp : p x = true) : ∀ y ∈ l.take (k + 1), p y = true := by
  intro y hy
  rw [List.take_add_one, hx] at hy
  rcases List.mem_append.1 hy with h1 | h1
  · exact h y h1
  · simp at h1; subst h1; exact hp
theorem all_no {α : Type} {p : α → Bool} {l : List α} {k : Nat} {x : α} (hx : l[k]? = some x) (hp : p x = false) : l.all p = false := by
  rw [List.all_eq_false]
  exact ⟨x, List.mem_of_getElem? hx, by simp [hp]⟩
theorem all_yes {α : Type} {p : α → Bool} {l : List α} (h : ∀ y ∈ l.take l.length, p y = true) : l.all p = true := by
  rw [List.take_length] at h
  rw [List.all_eq_true]; exact h
theorem tyok_cases (x : UInt8) : (tyok x = true ∧ (x.toNat = 1 ∨ x.toNat = 2 ∨ x.toNat = 3)) ∨ (tyok x = false ∧ (x.toNat < 1 ∨ 3 < x.toNat)) := by
  unfold tyok
  simp only [Bool.or_eq_true, decide_eq_true_eq, Bool.or_eq_false_iff, decide_eq_false_iff_not]
  omega

set_option maxRecDepth 100000 in
theorem known_any (B : Nat) (A : Option Addr) (c : Nat) (T : List UInt8) (w : World) (h : Rd w B A (cells T)) (hll : T.length ≤ maxLen) :
    Calls Try.prog 43 #[.slice A T.length c] w fun e w' => e = .returned (.bool (knownT T)) ∧ w = w' := by
  unfold maxLen at hll
  obtain ⟨bl, hbl⟩ : ∃ b, b = knownT T := ⟨_, rfl⟩
  have HBL := Lib.hid hbl
  rw [← hbl]
  clear hbl
  go_enter Try.func43, Try.ntmps43
  go_wp2
  go_loop [7] (fun v7 => ∃ k : Nat, k ≤ T.length ∧ v7 = .int .i64 k ∧ ∀ x ∈ T.take k, tyok x = true) (fun v7 => T.length - (intOf v7).toNat)
  case atStart => exact ⟨0, by omega, rfl, by simp⟩
  case round =>
    obtain ⟨k, hk, rfl, hall⟩ := hrel
    have HALL := Lib.hid hall
    clear hall
    by_cases hlt : k < T.length
    · obtain ⟨b, o, rfl, hb, hc⟩ := rd_cell h hlt
      have hck := hc k hlt
      obtain ⟨x, hx⟩ : ∃ x, x = T[k] := ⟨_, rfl⟩
      rw [← hx] at hck
      have HX := Lib.hid (show T[k]? = some x by rw [hx]; exact List.getElem?_eq_getElem hlt)
      clear hc hx
      rcases tyok_cases x with ⟨ht, h1⟩ | ⟨ht, h1⟩
      · have h1 : 1 ≤ x.toNat ∧ x.toNat ≤ 3 := by omega
        have HT := Lib.hid ht
        clear ht
        go_wp2
        go_round
        case rel => exact ⟨k + 1, by omega, by go_num, all_more HALL.out HX.out HT.out⟩
        case measure => simp [intOf]; omega
      · have he : bl = false := by rw [HBL.out]; exact all_no HX.out ht
        subst he
        clear ht
        rcases h1 with h1 | h1
        · go_wp2
          go_ret
          exact ⟨rfl, rfl⟩
        · go_wp2
          go_ret
          exact ⟨rfl, rfl⟩
    · have hkk : k = T.length := by omega
      have he : bl = true := by rw [HBL.out]; exact all_yes (hkk ▸ HALL.out)
      subst he
      subst hkk
      go_wp2
      go_ret
      exact ⟨rfl, rfl⟩

set_option maxRecDepth 100000 in
theorem Types_any (B : Nat) (A : Option Addr) (c : Nat) (T : List UInt8) (w : World) (h : Rd w B A (cells T)) (hll : T.length ≤ maxLen) :
    Calls Try.prog 33 #[.slice A T.length c] w fun e w' => e = .returned (.bool (knownT T)) ∧ w = w' := by
  unfold maxLen at hll
  obtain ⟨bl, hbl⟩ : ∃ b, b = knownT T := ⟨_, rfl⟩
  have HBL := Lib.hid hbl
  rw [← hbl]
  clear hbl
  go_enter Try.func33, Try.ntmps33
  go_wp2
  go_loop [3] (fun v3 => ∃ k : Nat, k ≤ T.length ∧ v3 = .int .i64 k ∧ ∀ x ∈ T.take k, tyok x = true) (fun v3 => T.length - (intOf v3).toNat)
  case atStart => exact ⟨0, by omega, rfl, by simp⟩
  case round =>
    obtain ⟨k, hk, rfl, hall⟩ := hrel
    have HALL := Lib.hid hall
    clear hall
    by_cases hlt : k < T.length
    · obtain ⟨b, o, rfl, hb, hc⟩ := rd_cell h hlt
      have hck := hc k hlt
      obtain ⟨x, hx⟩ : ∃ x, x = T[k] := ⟨_, rfl⟩
      rw [← hx] at hck
      have HX := Lib.hid (show T[k]? = some x by rw [hx]; exact List.getElem?_eq_getElem hlt)
      clear hc hx
      rcases tyok_cases x with ⟨ht, h1⟩ | ⟨ht, h1⟩
      · have HT := Lib.hid ht
        clear ht
        rcases h1 with h1 | h1 | h1
        · rw [h1] at hck
          go_wp2
          go_round
          case rel => exact ⟨k + 1, by omega, by go_num, all_more HALL.out HX.out HT.out⟩
          case measure => simp [intOf]; omega
        · rw [h1] at hck
          go_wp2
          go_round
          case rel => exact ⟨k + 1, by omega, by go_num, all_more HALL.out HX.out HT.out⟩
          case measure => simp [intOf]; omega
        · rw [h1] at hck
          go_wp2
          go_round
          case rel => exact ⟨k + 1, by omega, by go_num, all_more HALL.out HX.out HT.out⟩
          case measure => simp [intOf]; omega
      · have he : bl = false := by rw [HBL.out]; exact all_no HX.out ht
        subst he
        clear ht
        have e1 : ((x.toNat : Int) != 1) = true := by simp; omega
        have e2 : ((x.toNat : Int) != 2) = true := by simp; omega
        have e3 : ((x.toNat : Int) != 3) = true := by simp; omega
        clear h1
        go_wp2
        go_ret
        exact ⟨rfl, rfl⟩
    · have hkk : k = T.length := by omega
      have he : bl = true := by rw [HBL.out]; exact all_yes (hkk ▸ HALL.out)
      subst he
      subst hkk
      go_wp2
      go_ret
      exact ⟨rfl, rfl⟩

theorem esc_le3 : ∀ t : List UInt8, (esc t).length ≤ 2 * t.length
  | [] => by simp [esc]
  | c :: t => by
    have := esc_le3 t
    simp only [esc]; split <;> simp <;> omega
theorem be_len3 : ∀ k u, (be k u).length = k
  | 0, _ => rfl
  | k + 1, u => by simp [be, be_len3 k u]
theorem kone_le3 (v : V) : (kone v).length ≤ 9 + 2 * v.t.length := by
  unfold kone
  have := esc_le3 v.t
  split
  · simp; omega
  split
  · simp; omega
  split
  · simp [be_len3]
  · simp; omega

set_option maxHeartbeats 1000000 in
set_option maxRecDepth 100000 in
theorem rmay_any (t : UInt8) (v : V) (hk : v.k < 256) (hn : i64r v.n) (ht : v.t.length ≤ 1000000) (w : World) :
    Calls Try.prog 45 #[b8 t, va v] w fun e w' => e = .returned (.bool (rmay t v)) ∧ Below w.heap.size w w' := by
  have hv : ∀ (W : World), Rd (W.alloc (.cells #[.int .u8 (v.k : Int), .int .i64 v.n, txt v.t] 46)) (W.heap.size + 1) (some ⟨W.heap.size, 0, none⟩) (vcells [v]) := fun W => by
    have h := cv_three (T := 46) (w := W) v rfl
    simpa [vcells] using h
  have hle := kone_le3 v
  have K0 := fun (o : Obj) => Append_any ((w.alloc o).heap.size + 1) none (some ⟨(w.alloc o).heap.size, 0, none⟩) 0 1 [] [v] ((w.alloc o).alloc (.cells #[.int .u8 (v.k : Int), .int .i64 v.n, txt v.t] 46)) (.inl rfl) (hv (w.alloc o)) (by simp) (by simp; omega) (by simp) (by
    intro u hu; simp at hu; subst hu; exact ⟨hk, hn⟩)
  simp only [World.size_alloc, List.length_nil, List.length_cons, Nat.zero_add] at K0
  obtain ⟨r, hr⟩ : ∃ r, r = kapp [] [v] := ⟨_, rfl⟩
  rw [← hr] at K0
  have HK := Lib.hid K0
  have her : r.2 = if mayB v then 0 else 1 := by
    rw [hr]; unfold kapp
    by_cases hm : mayB v = true
    · simp [hm]
    · simp [hm]
  obtain ⟨r1, r2⟩ := r
  dsimp only at her
  have HR := Lib.hid her
  clear hv K0 hr her hle
  obtain ⟨bl, hbl⟩ : ∃ b, b = rmay t v := ⟨_, rfl⟩
  have HBL := Lib.hid hbl
  rw [← hbl]
  clear hbl
  have ht256 := t.toNat_lt
  obtain ⟨k, n, tx⟩ := v
  dsimp only at hk hn ht HK HR HBL ⊢
  have hbl := HBL.out
  unfold rmay at hbl
  dsimp only at hbl
  cases hm : mayB ⟨k, n, tx⟩
  · have hr2 := HR.out
    rw [hm] at hr2
    simp at hr2
    subst hr2
    rw [hm] at hbl
    simp at hbl
    subst hbl
    clear hm HBL HR
    go_enter Try.func45, Try.ntmps45
    go_wp2_with fail
    refine (HK.out _).mono ?_; rintro e w2 ⟨A2, c2, rfl, hown2, hb2⟩
    have hb : Below w.heap.size w w2 := (((Below.refl _ w).alloc (Nat.le_refl _) _).alloc (by simp) _).trans (hb2.mono (by simp; omega))
    clear hown2
    go_wp2_with fail
    go_ret
    exact ⟨rfl, hb⟩
  · have hr2 := HR.out
    rw [hm] at hr2
    simp at hr2
    subst hr2
    rw [hm] at hbl
    simp only [Bool.true_and] at hbl
    clear hm HBL HR
    by_cases h0 : k = 0
    · have he : bl = true := by rw [hbl]; simp [h0]
      subst he
      clear hbl
      subst h0
      go_enter Try.func45, Try.ntmps45
      go_wp2_with fail
      refine (HK.out _).mono ?_; rintro e w2 ⟨A2, c2, rfl, hown2, hb2⟩
      have hb : Below w.heap.size w w2 := (((Below.refl _ w).alloc (Nat.le_refl _) _).alloc (by simp) _).trans (hb2.mono (by simp; omega))
      have d0 : w2.cell? ⟨w.heap.size, 0, none⟩ = some (.int .u8 ((0 : Nat) : Int)) := cell_be (by simp [go_sem]) hb2 (by simp; omega)
      clear hown2
      go_wp2_with fail
      go_ret
      exact ⟨rfl, hb⟩
    · have e0 : ((k : Int) == 0) = false := by simp; omega
      have hq : ((k : Int) == (t.toNat : Int)) = bl := by
        rw [hbl]
        simp only [h0, decide_false, Bool.false_or]
        by_cases hkt : k = t.toNat
        · simp [hkt]
        · rw [decide_eq_false hkt]; simp; omega
      have HQ := Lib.hid hq
      clear hbl h0 hq
      go_enter Try.func45, Try.ntmps45
      go_wp2_with fail
      refine (HK.out _).mono ?_; rintro e w2 ⟨A2, c2, rfl, hown2, hb2⟩
      have hb : Below w.heap.size w w2 := (((Below.refl _ w).alloc (Nat.le_refl _) _).alloc (by simp) _).trans (hb2.mono (by simp; omega))
      have d0 : w2.cell? ⟨w.heap.size, 0, none⟩ = some (.int .u8 (k : Int)) := cell_be (by simp [go_sem]) hb2 (by simp; omega)
      clear hown2
      go_wp2_with fail
      go_ret
      exact ⟨by rw [← HQ.out]; rfl, hb⟩
end Go.Proofs.Ythkpgjcnnfdibaa.Rw

/-! The walk of the reference's Row (layer 4); append of a string onto bytes of the call's own; the table row.ways. No condition but sizes. -/
namespace Go.Proofs.Ythkpgjcnnfdibaa.Rw
open Go.RowKit Go.Maps
set_option linter.unusedVariables false
set_option linter.unusedSimpArgs false

theorem mays_iff : ∀ (T : List UInt8) (l : List V), mays T l = true ↔ ∀ (i : Nat) (t : UInt8) (v : V), T[i]? = some t → l[i]? = some v → rmay t v = true
  | [], l => by simp [mays]
  | t :: T, [] => by simp [mays]
  | t :: T, v :: l => by
    simp only [mays, Bool.and_eq_true, mays_iff T l]
    constructor
    · rintro ⟨h1, h2⟩ i t' v' ht hv
      rcases i with _ | i
      · simp at ht hv; subst ht hv; exact h1
      · simp at ht hv; exact h2 i t' v' ht hv
    · intro h
      exact ⟨h 0 t v rfl rfl, fun i t' v' ht hv => h (i + 1) t' v' (by simpa using ht) (by simpa using hv)⟩
/-- the first k are of their types -/
def maysTo (T : List UInt8) (l : List V) (k : Nat) : Prop := ∀ (i : Nat) (t : UInt8) (v : V), i < k → T[i]? = some t → l[i]? = some v → rmay t v = true
theorem maysTo_0 (T : List UInt8) (l : List V) : maysTo T l 0 := fun i t v h => by omega
theorem maysTo_more {T : List UInt8} {l : List V} {k : Nat} {t : UInt8} {v : V} (h : maysTo T l k) (ht : T[k]? = some t) (hv : l[k]? = some v) (hm : rmay t v = true) : maysTo T l (k + 1) := by
  intro i t' v' hi ht' hv'
  by_cases hik : i = k
  · subst hik
    rw [ht] at ht'; rw [hv] at hv'
    cases ht'; cases hv'; exact hm
  · exact h i t' v' (by omega) ht' hv'
theorem maysTo_all {T : List UInt8} {l : List V} {k : Nat} (h : maysTo T l k) (hk : l.length ≤ k) : mays T l = true :=
  (mays_iff T l).2 fun i t v ht hv => h i t v (by have := (List.getElem?_eq_some_iff.1 hv).1; omega) ht hv
theorem mays_no {T : List UInt8} {l : List V} {k : Nat} {t : UInt8} {v : V} (ht : T[k]? = some t) (hv : l[k]? = some v) (hm : rmay t v = false) : mays T l = false := by
  rw [← Bool.not_eq_true, mays_iff]
  intro h
  have := h k t v ht hv
  rw [hm] at this; cases this

set_option maxHeartbeats 4000000 in
set_option maxRecDepth 100000 in
theorem RRow_any (B : Nat) (A A' : Option Addr) (c c' : Nat) (T : List UInt8) (l : List V) (w : World) (hT : Rd w B A (cells T)) (hl : Rd w B A' (vcells l)) (hB : B ≤ w.heap.size) (hll : l.length ≤ maxLen) (hok : ∀ v ∈ l, v.k < 256) :
    Calls Try.prog 34 #[.slice A T.length c, .slice A' l.length c'] w fun e w' => e = .returned (.bool (rowok T l)) ∧ Below w.heap.size w w' := by
  by_cases hlm : l.length = T.length
  case neg =>
    have he : rowok T l = false := by unfold rowok; simp [hlm]
    have HE := Lib.hid he
    have hI : ((l.length : Int) != (T.length : Int)) = true := by simp; omega
    clear he hlm
    go_enter Try.func34, Try.ntmps34
    go_wp2
    go_ret
    exact ⟨by rw [HE.out]; rfl, by go_grown⟩
  obtain ⟨bl, hbl⟩ : ∃ b, b = rowok T l := ⟨_, rfl⟩
  have hbl2 : bl = mays T l := by rw [hbl]; unfold rowok; simp [hlm]
  rw [← hbl]
  have HBL := Lib.hid hbl2
  have HLM := Lib.hid hlm
  obtain ⟨n, hn⟩ : ∃ n, n = l.length := ⟨_, rfl⟩
  have hn2 : T.length = n := by omega
  rw [← hn, hn2]
  have HN := Lib.hid hn
  have HN2 := Lib.hid hn2
  rw [← hn] at hll
  clear hlm hn hn2 hbl hbl2
  unfold maxLen at hll
  go_enter Try.func34, Try.ntmps34
  go_wp2
  go_loopw [5] (fun v5 wr => ∃ k : Nat, k ≤ n ∧ v5 = .int .i64 k ∧ maysTo T l k ∧ Below w.heap.size w wr) (fun v5 _ => n - (intOf v5).toNat)
  case atStart => exact ⟨0, by omega, rfl, maysTo_0 _ _, Below.refl _ _⟩
  case round =>
    obtain ⟨k, hk, rfl, hto, hbel⟩ := hrel
    have HTO := Lib.hid hto
    clear hto
    by_cases hlt : k < n
    · have hn1 := HN.out
      have hn2 := HN2.out
      obtain ⟨v, hv⟩ : ∃ v, l[k]? = some v := ⟨_, List.getElem?_eq_getElem (by omega)⟩
      obtain ⟨t, ht⟩ : ∃ t, T[k]? = some t := ⟨_, List.getElem?_eq_getElem (by omega)⟩
      obtain ⟨gb, go, rfl, hgb, q0, q1, q2⟩ := rd_val hl hv
      obtain ⟨hb, ho, rfl, hhb, hc⟩ := rd_cell hT (show k < T.length by omega)
      have p0 := hc k (by omega)
      rw [show T[k] = t by rw [List.getElem?_eq_getElem (by omega)] at ht; exact Option.some.inj ht] at p0
      have F1 : ∀ w', Below w.heap.size w w' → w'.cell? ⟨gb, go + k * 3, none⟩ = some (.int .u8 (v.k : Int)) ∧ w'.cell? ⟨gb, go + k * 3 + 1, none⟩ = some (.int .i64 v.n) ∧ w'.cell? ⟨gb, go + k * 3 + 2, none⟩ = some (txt v.t) := fun w' hb => ⟨(hb.cell (p := ⟨gb, go + k * 3, none⟩) (by show gb < _; omega)).trans q0, (hb.cell (p := ⟨gb, go + k * 3 + 1, none⟩) (by show gb < _; omega)).trans q1, (hb.cell (p := ⟨gb, go + k * 3 + 2, none⟩) (by show gb < _; omega)).trans q2⟩
      have F2 : ∀ w', Below w.heap.size w w' → w'.cell? ⟨hb, ho + k, none⟩ = some (.int .u8 (t.toNat : Int)) := fun w' hbw => (hbw.cell (p := ⟨hb, ho + k, none⟩) (by show hb < _; omega)).trans p0
      have hkI : (k : Int) < (n : Int) := by omega
      have HV := Lib.hid hv
      have HT := Lib.hid ht
      have M0 := fun w => May_any v (hok v (List.mem_of_getElem? hv)) w
      obtain ⟨mb, hmb⟩ : ∃ x, x = mayB v := ⟨_, rfl⟩
      rw [← hmb] at M0
      have HM := Lib.hid M0
      have hrm : rmay t v = (mb && (decide (v.k = 0) || decide (v.k = t.toNat))) := by rw [hmb]; rfl
      have HRM := Lib.hid hrm
      have ht256 := t.toNat_lt
      have hvk := hok v (List.mem_of_getElem? hv)
      clear q0 q1 q2 p0 hc hn1 hn2 hv ht M0 hmb hrm
      go_wp2_with fail
      cases mb
      · have he : bl = false := by rw [HBL.out]; exact mays_no HT.out HV.out (by rw [HRM.out]; rfl)
        subst he
        refine ah_start 26 (fun w' => Below w.heap.size w w') rfl (by kernel_rfl) hbel.drew ?_ ; intro hS
        (refine mv_val 0 (v := ?_) rfl (by kernel_rfl) (by kernel_rfl) (by kernel_rfl) (fun _ _ _ h => h) (by rfl) hS ?_ ?_; rotate_left; (focus (intro w hSw; (try dsimp only at hSw); (have f1 := (F1 w hSw).1; have f2 := (F1 w hSw).2.1; have f3 := (F1 w hSw).2.2; have f4 := F2 w hSw; have f7 := hlt); go_simp; first | done | with_reducible rfl)); simp only [Act.put, List.setIfInBounds_toArray, List.set_cons_zero, List.set_cons_succ])
        (refine mv_val 1 (v := ?_) rfl (by kernel_rfl) (by kernel_rfl) (by kernel_rfl) (fun _ _ _ h => h) (by rfl) hS ?_ ?_; rotate_left; (focus (intro w hSw; (try dsimp only at hSw); (have f1 := (F1 w hSw).1; have f2 := (F1 w hSw).2.1; have f3 := (F1 w hSw).2.2; have f4 := F2 w hSw; have f7 := hlt); go_simp; first | done | with_reducible rfl)); simp only [Act.put, List.setIfInBounds_toArray, List.set_cons_zero, List.set_cons_succ])
        (refine mv_val 2 (v := ?_) rfl (by kernel_rfl) (by kernel_rfl) (by kernel_rfl) (fun _ _ _ h => h) (by rfl) hS ?_ ?_; rotate_left; (focus (intro w hSw; (try dsimp only at hSw); (have f1 := (F1 w hSw).1; have f2 := (F1 w hSw).2.1; have f3 := (F1 w hSw).2.2; have f4 := F2 w hSw; have f7 := hlt); go_simp; first | done | with_reducible rfl)); simp only [Act.put, List.setIfInBounds_toArray, List.set_cons_zero, List.set_cons_succ])
        (refine mv_val 3 (v := ?_) rfl (by kernel_rfl) (by kernel_rfl) (by kernel_rfl) (fun _ _ _ h => h) (by rfl) hS ?_ ?_; rotate_left; (focus (intro w hSw; (try dsimp only at hSw); (have f1 := (F1 w hSw).1; have f2 := (F1 w hSw).2.1; have f3 := (F1 w hSw).2.2; have f4 := F2 w hSw; have f7 := hlt); go_simp; first | done | with_reducible rfl)); simp only [Act.put, List.setIfInBounds_toArray, List.set_cons_zero, List.set_cons_succ])
        (refine mv_call 4 (f := ?_) (args := ?_) rfl (by kernel_rfl) (by rfl) ?_ ?_; rotate_left 2; (focus (go_simp; first | done | with_reducible rfl | (refine ⟨?_, ?_⟩ <;> with_reducible rfl))))
        refine (HM.out _).mono ?_; rintro e w2 ⟨rfl, hb2⟩
        have hS2 : Below w.heap.size w w2 := hS.trans (hb2.mono hS.size)
        refine ⟨_, rfl, hS2, ?_⟩
        replace hS := hS2
        simp only [Act.put, List.setIfInBounds_toArray, List.set_cons_zero, List.set_cons_succ]
        (refine mv_val 5 (v := ?_) rfl (by kernel_rfl) (by kernel_rfl) (by kernel_rfl) (fun _ _ _ h => h) (by rfl) hS ?_ ?_; rotate_left; (focus (intro w hSw; (try dsimp only at hSw); (have f1 := (F1 w hSw).1; have f2 := (F1 w hSw).2.1; have f3 := (F1 w hSw).2.2; have f4 := F2 w hSw; have f7 := hlt); go_simp; first | done | with_reducible rfl)); simp only [Act.put, List.setIfInBounds_toArray, List.set_cons_zero, List.set_cons_succ])
        (refine mv_val 6 (v := ?_) rfl (by kernel_rfl) (by kernel_rfl) (by kernel_rfl) (fun _ _ _ h => h) (by rfl) hS ?_ ?_; rotate_left; (focus (intro w hSw; (try dsimp only at hSw); (have f1 := (F1 w hSw).1; have f2 := (F1 w hSw).2.1; have f3 := (F1 w hSw).2.2; have f4 := F2 w hSw; have f7 := hlt); go_simp; first | done | with_reducible rfl)); simp only [Act.put, List.setIfInBounds_toArray, List.set_cons_zero, List.set_cons_succ])
        (refine mv_skip 7 rfl (by kernel_rfl) (by kernel_rfl) (by kernel_rfl) (fun _ _ _ h => h) (by rfl) hS ?_; simp only [Act.put, List.setIfInBounds_toArray, List.set_cons_zero, List.set_cons_succ])
        (refine mv_skip 8 rfl (by kernel_rfl) (by kernel_rfl) (by kernel_rfl) (fun _ _ _ h => h) (by rfl) hS ?_; simp only [Act.put, List.setIfInBounds_toArray, List.set_cons_zero, List.set_cons_succ])
        (refine mv_skip 9 rfl (by kernel_rfl) (by kernel_rfl) (by kernel_rfl) (fun _ _ _ h => h) (by rfl) hS ?_; simp only [Act.put, List.setIfInBounds_toArray, List.set_cons_zero, List.set_cons_succ])
        (refine mv_skip 10 rfl (by kernel_rfl) (by kernel_rfl) (by kernel_rfl) (fun _ _ _ h => h) (by rfl) hS ?_; simp only [Act.put, List.setIfInBounds_toArray, List.set_cons_zero, List.set_cons_succ])
        (refine mv_skip 11 rfl (by kernel_rfl) (by kernel_rfl) (by kernel_rfl) (fun _ _ _ h => h) (by rfl) hS ?_; simp only [Act.put, List.setIfInBounds_toArray, List.set_cons_zero, List.set_cons_succ])
        (refine mv_skip 12 rfl (by kernel_rfl) (by kernel_rfl) (by kernel_rfl) (fun _ _ _ h => h) (by rfl) hS ?_; simp only [Act.put, List.setIfInBounds_toArray, List.set_cons_zero, List.set_cons_succ])
        (refine mv_skip 13 rfl (by kernel_rfl) (by kernel_rfl) (by kernel_rfl) (fun _ _ _ h => h) (by rfl) hS ?_; simp only [Act.put, List.setIfInBounds_toArray, List.set_cons_zero, List.set_cons_succ])
        (refine mv_skip 14 rfl (by kernel_rfl) (by kernel_rfl) (by kernel_rfl) (fun _ _ _ h => h) (by rfl) hS ?_; simp only [Act.put, List.setIfInBounds_toArray, List.set_cons_zero, List.set_cons_succ])
        (refine mv_skip 15 rfl (by kernel_rfl) (by kernel_rfl) (by kernel_rfl) (fun _ _ _ h => h) (by rfl) hS ?_; simp only [Act.put, List.setIfInBounds_toArray, List.set_cons_zero, List.set_cons_succ])
        (refine mv_skip 16 rfl (by kernel_rfl) (by kernel_rfl) (by kernel_rfl) (fun _ _ _ h => h) (by rfl) hS ?_; simp only [Act.put, List.setIfInBounds_toArray, List.set_cons_zero, List.set_cons_succ])
        (refine mv_skip 17 rfl (by kernel_rfl) (by kernel_rfl) (by kernel_rfl) (fun _ _ _ h => h) (by rfl) hS ?_; simp only [Act.put, List.setIfInBounds_toArray, List.set_cons_zero, List.set_cons_succ])
        (refine mv_skip 18 rfl (by kernel_rfl) (by kernel_rfl) (by kernel_rfl) (fun _ _ _ h => h) (by rfl) hS ?_; simp only [Act.put, List.setIfInBounds_toArray, List.set_cons_zero, List.set_cons_succ])
        (refine mv_skip 19 rfl (by kernel_rfl) (by kernel_rfl) (by kernel_rfl) (fun _ _ _ h => h) (by rfl) hS ?_; simp only [Act.put, List.setIfInBounds_toArray, List.set_cons_zero, List.set_cons_succ])
        (refine mv_skip 20 rfl (by kernel_rfl) (by kernel_rfl) (by kernel_rfl) (fun _ _ _ h => h) (by rfl) hS ?_; simp only [Act.put, List.setIfInBounds_toArray, List.set_cons_zero, List.set_cons_succ])
        (refine mv_skip 21 rfl (by kernel_rfl) (by kernel_rfl) (by kernel_rfl) (fun _ _ _ h => h) (by rfl) hS ?_; simp only [Act.put, List.setIfInBounds_toArray, List.set_cons_zero, List.set_cons_succ])
        (refine mv_skip 22 rfl (by kernel_rfl) (by kernel_rfl) (by kernel_rfl) (fun _ _ _ h => h) (by rfl) hS ?_; simp only [Act.put, List.setIfInBounds_toArray, List.set_cons_zero, List.set_cons_succ])
        (refine mv_skip 23 rfl (by kernel_rfl) (by kernel_rfl) (by kernel_rfl) (fun _ _ _ h => h) (by rfl) hS ?_; simp only [Act.put, List.setIfInBounds_toArray, List.set_cons_zero, List.set_cons_succ])
        (refine mv_skip 24 rfl (by kernel_rfl) (by kernel_rfl) (by kernel_rfl) (fun _ _ _ h => h) (by rfl) hS ?_; simp only [Act.put, List.setIfInBounds_toArray, List.set_cons_zero, List.set_cons_succ])
        (refine mv_val 25 (v := ?_) rfl (by kernel_rfl) (by kernel_rfl) (by kernel_rfl) (fun _ _ _ h => h) (by rfl) hS ?_ ?_; rotate_left; (focus (intro w hSw; (try dsimp only at hSw); (have f1 := (F1 w hSw).1; have f2 := (F1 w hSw).2.1; have f3 := (F1 w hSw).2.2; have f4 := F2 w hSw; have f7 := hlt); go_simp; first | done | with_reducible rfl)); simp only [Act.put, List.setIfInBounds_toArray, List.set_cons_zero, List.set_cons_succ])
        refine wpAnyH_done (by kernel_rfl) ?_ _
        go_wp2_with fail
        go_ret
        exact ⟨rfl, hS⟩
      · by_cases h0 : v.k = 0
        · have hr1 : rmay t v = true := by rw [HRM.out]; simp [h0]
          have HR1 := Lib.hid hr1
          have hz : ((v.k : Int) != 0) = false := by simp; omega
          clear hr1 HRM h0
          refine ah_start 26 (fun w' => Below w.heap.size w w') rfl (by kernel_rfl) hbel.drew ?_ ; intro hS
          (refine mv_val 0 (v := ?_) rfl (by kernel_rfl) (by kernel_rfl) (by kernel_rfl) (fun _ _ _ h => h) (by rfl) hS ?_ ?_; rotate_left; (focus (intro w hSw; (try dsimp only at hSw); (have f1 := (F1 w hSw).1; have f2 := (F1 w hSw).2.1; have f3 := (F1 w hSw).2.2; have f4 := F2 w hSw; have f7 := hlt; have f8 := hz); go_simp; first | done | with_reducible rfl)); simp only [Act.put, List.setIfInBounds_toArray, List.set_cons_zero, List.set_cons_succ])
          (refine mv_val 1 (v := ?_) rfl (by kernel_rfl) (by kernel_rfl) (by kernel_rfl) (fun _ _ _ h => h) (by rfl) hS ?_ ?_; rotate_left; (focus (intro w hSw; (try dsimp only at hSw); (have f1 := (F1 w hSw).1; have f2 := (F1 w hSw).2.1; have f3 := (F1 w hSw).2.2; have f4 := F2 w hSw; have f7 := hlt; have f8 := hz); go_simp; first | done | with_reducible rfl)); simp only [Act.put, List.setIfInBounds_toArray, List.set_cons_zero, List.set_cons_succ])
          (refine mv_val 2 (v := ?_) rfl (by kernel_rfl) (by kernel_rfl) (by kernel_rfl) (fun _ _ _ h => h) (by rfl) hS ?_ ?_; rotate_left; (focus (intro w hSw; (try dsimp only at hSw); (have f1 := (F1 w hSw).1; have f2 := (F1 w hSw).2.1; have f3 := (F1 w hSw).2.2; have f4 := F2 w hSw; have f7 := hlt; have f8 := hz); go_simp; first | done | with_reducible rfl)); simp only [Act.put, List.setIfInBounds_toArray, List.set_cons_zero, List.set_cons_succ])
          (refine mv_val 3 (v := ?_) rfl (by kernel_rfl) (by kernel_rfl) (by kernel_rfl) (fun _ _ _ h => h) (by rfl) hS ?_ ?_; rotate_left; (focus (intro w hSw; (try dsimp only at hSw); (have f1 := (F1 w hSw).1; have f2 := (F1 w hSw).2.1; have f3 := (F1 w hSw).2.2; have f4 := F2 w hSw; have f7 := hlt; have f8 := hz); go_simp; first | done | with_reducible rfl)); simp only [Act.put, List.setIfInBounds_toArray, List.set_cons_zero, List.set_cons_succ])
          (refine mv_call 4 (f := ?_) (args := ?_) rfl (by kernel_rfl) (by rfl) ?_ ?_; rotate_left 2; (focus (go_simp; first | done | with_reducible rfl | (refine ⟨?_, ?_⟩ <;> with_reducible rfl))))
          refine (HM.out _).mono ?_; rintro e w2 ⟨rfl, hb2⟩
          have hS2 : Below w.heap.size w w2 := hS.trans (hb2.mono hS.size)
          refine ⟨_, rfl, hS2, ?_⟩
          replace hS := hS2
          simp only [Act.put, List.setIfInBounds_toArray, List.set_cons_zero, List.set_cons_succ]
          (refine mv_val 5 (v := ?_) rfl (by kernel_rfl) (by kernel_rfl) (by kernel_rfl) (fun _ _ _ h => h) (by rfl) hS ?_ ?_; rotate_left; (focus (intro w hSw; (try dsimp only at hSw); (have f1 := (F1 w hSw).1; have f2 := (F1 w hSw).2.1; have f3 := (F1 w hSw).2.2; have f4 := F2 w hSw; have f7 := hlt; have f8 := hz); go_simp; first | done | with_reducible rfl)); simp only [Act.put, List.setIfInBounds_toArray, List.set_cons_zero, List.set_cons_succ])
          (refine mv_val 6 (v := ?_) rfl (by kernel_rfl) (by kernel_rfl) (by kernel_rfl) (fun _ _ _ h => h) (by rfl) hS ?_ ?_; rotate_left; (focus (intro w hSw; (try dsimp only at hSw); (have f1 := (F1 w hSw).1; have f2 := (F1 w hSw).2.1; have f3 := (F1 w hSw).2.2; have f4 := F2 w hSw; have f7 := hlt; have f8 := hz); go_simp; first | done | with_reducible rfl)); simp only [Act.put, List.setIfInBounds_toArray, List.set_cons_zero, List.set_cons_succ])
          (refine mv_val 7 (v := ?_) rfl (by kernel_rfl) (by kernel_rfl) (by kernel_rfl) (fun _ _ _ h => h) (by rfl) hS ?_ ?_; rotate_left; (focus (intro w hSw; (try dsimp only at hSw); (have f1 := (F1 w hSw).1; have f2 := (F1 w hSw).2.1; have f3 := (F1 w hSw).2.2; have f4 := F2 w hSw; have f7 := hlt; have f8 := hz); go_simp; first | done | with_reducible rfl)); simp only [Act.put, List.setIfInBounds_toArray, List.set_cons_zero, List.set_cons_succ])
          (refine mv_val 8 (v := ?_) rfl (by kernel_rfl) (by kernel_rfl) (by kernel_rfl) (fun _ _ _ h => h) (by rfl) hS ?_ ?_; rotate_left; (focus (intro w hSw; (try dsimp only at hSw); (have f1 := (F1 w hSw).1; have f2 := (F1 w hSw).2.1; have f3 := (F1 w hSw).2.2; have f4 := F2 w hSw; have f7 := hlt; have f8 := hz); go_simp; first | done | with_reducible rfl)); simp only [Act.put, List.setIfInBounds_toArray, List.set_cons_zero, List.set_cons_succ])
          (refine mv_val 9 (v := ?_) rfl (by kernel_rfl) (by kernel_rfl) (by kernel_rfl) (fun _ _ _ h => h) (by rfl) hS ?_ ?_; rotate_left; (focus (intro w hSw; (try dsimp only at hSw); (have f1 := (F1 w hSw).1; have f2 := (F1 w hSw).2.1; have f3 := (F1 w hSw).2.2; have f4 := F2 w hSw; have f7 := hlt; have f8 := hz); go_simp; first | done | with_reducible rfl)); simp only [Act.put, List.setIfInBounds_toArray, List.set_cons_zero, List.set_cons_succ])
          (refine mv_val 10 (v := ?_) rfl (by kernel_rfl) (by kernel_rfl) (by kernel_rfl) (fun _ _ _ h => h) (by rfl) hS ?_ ?_; rotate_left; (focus (intro w hSw; (try dsimp only at hSw); (have f1 := (F1 w hSw).1; have f2 := (F1 w hSw).2.1; have f3 := (F1 w hSw).2.2; have f4 := F2 w hSw; have f7 := hlt; have f8 := hz); go_simp; first | done | with_reducible rfl)); simp only [Act.put, List.setIfInBounds_toArray, List.set_cons_zero, List.set_cons_succ])
          (refine mv_val 11 (v := ?_) rfl (by kernel_rfl) (by kernel_rfl) (by kernel_rfl) (fun _ _ _ h => h) (by rfl) hS ?_ ?_; rotate_left; (focus (intro w hSw; (try dsimp only at hSw); (have f1 := (F1 w hSw).1; have f2 := (F1 w hSw).2.1; have f3 := (F1 w hSw).2.2; have f4 := F2 w hSw; have f7 := hlt; have f8 := hz); go_simp; first | done | with_reducible rfl)); simp only [Act.put, List.setIfInBounds_toArray, List.set_cons_zero, List.set_cons_succ])
          (refine mv_val 12 (v := ?_) rfl (by kernel_rfl) (by kernel_rfl) (by kernel_rfl) (fun _ _ _ h => h) (by rfl) hS ?_ ?_; rotate_left; (focus (intro w hSw; (try dsimp only at hSw); (have f1 := (F1 w hSw).1; have f2 := (F1 w hSw).2.1; have f3 := (F1 w hSw).2.2; have f4 := F2 w hSw; have f7 := hlt; have f8 := hz); go_simp; first | done | with_reducible rfl)); simp only [Act.put, List.setIfInBounds_toArray, List.set_cons_zero, List.set_cons_succ])
          (refine mv_val 13 (v := ?_) rfl (by kernel_rfl) (by kernel_rfl) (by kernel_rfl) (fun _ _ _ h => h) (by rfl) hS ?_ ?_; rotate_left; (focus (intro w hSw; (try dsimp only at hSw); (have f1 := (F1 w hSw).1; have f2 := (F1 w hSw).2.1; have f3 := (F1 w hSw).2.2; have f4 := F2 w hSw; have f7 := hlt; have f8 := hz); go_simp; first | done | with_reducible rfl)); simp only [Act.put, List.setIfInBounds_toArray, List.set_cons_zero, List.set_cons_succ])
          (refine mv_skip 14 rfl (by kernel_rfl) (by kernel_rfl) (by kernel_rfl) (fun _ _ _ h => h) (by rfl) hS ?_; simp only [Act.put, List.setIfInBounds_toArray, List.set_cons_zero, List.set_cons_succ])
          (refine mv_skip 15 rfl (by kernel_rfl) (by kernel_rfl) (by kernel_rfl) (fun _ _ _ h => h) (by rfl) hS ?_; simp only [Act.put, List.setIfInBounds_toArray, List.set_cons_zero, List.set_cons_succ])
          (refine mv_skip 16 rfl (by kernel_rfl) (by kernel_rfl) (by kernel_rfl) (fun _ _ _ h => h) (by rfl) hS ?_; simp only [Act.put, List.setIfInBounds_toArray, List.set_cons_zero, List.set_cons_succ])
          (refine mv_skip 17 rfl (by kernel_rfl) (by kernel_rfl) (by kernel_rfl) (fun _ _ _ h => h) (by rfl) hS ?_; simp only [Act.put, List.setIfInBounds_toArray, List.set_cons_zero, List.set_cons_succ])
          (refine mv_skip 18 rfl (by kernel_rfl) (by kernel_rfl) (by kernel_rfl) (fun _ _ _ h => h) (by rfl) hS ?_; simp only [Act.put, List.setIfInBounds_toArray, List.set_cons_zero, List.set_cons_succ])
          (refine mv_skip 19 rfl (by kernel_rfl) (by kernel_rfl) (by kernel_rfl) (fun _ _ _ h => h) (by rfl) hS ?_; simp only [Act.put, List.setIfInBounds_toArray, List.set_cons_zero, List.set_cons_succ])
          (refine mv_skip 20 rfl (by kernel_rfl) (by kernel_rfl) (by kernel_rfl) (fun _ _ _ h => h) (by rfl) hS ?_; simp only [Act.put, List.setIfInBounds_toArray, List.set_cons_zero, List.set_cons_succ])
          (refine mv_skip 21 rfl (by kernel_rfl) (by kernel_rfl) (by kernel_rfl) (fun _ _ _ h => h) (by rfl) hS ?_; simp only [Act.put, List.setIfInBounds_toArray, List.set_cons_zero, List.set_cons_succ])
          (refine mv_skip 22 rfl (by kernel_rfl) (by kernel_rfl) (by kernel_rfl) (fun _ _ _ h => h) (by rfl) hS ?_; simp only [Act.put, List.setIfInBounds_toArray, List.set_cons_zero, List.set_cons_succ])
          (refine mv_skip 23 rfl (by kernel_rfl) (by kernel_rfl) (by kernel_rfl) (fun _ _ _ h => h) (by rfl) hS ?_; simp only [Act.put, List.setIfInBounds_toArray, List.set_cons_zero, List.set_cons_succ])
          (refine mv_val 24 (v := ?_) rfl (by kernel_rfl) (by kernel_rfl) (by kernel_rfl) (fun _ _ _ h => h) (by rfl) hS ?_ ?_; rotate_left; (focus (intro w hSw; (try dsimp only at hSw); (have f1 := (F1 w hSw).1; have f2 := (F1 w hSw).2.1; have f3 := (F1 w hSw).2.2; have f4 := F2 w hSw; have f7 := hlt; have f8 := hz); go_simp; first | done | with_reducible rfl)); simp only [Act.put, List.setIfInBounds_toArray, List.set_cons_zero, List.set_cons_succ])
          (refine mv_val 25 (v := ?_) rfl (by kernel_rfl) (by kernel_rfl) (by kernel_rfl) (fun _ _ _ h => h) (by rfl) hS ?_ ?_; rotate_left; (focus (intro w hSw; (try dsimp only at hSw); (have f1 := (F1 w hSw).1; have f2 := (F1 w hSw).2.1; have f3 := (F1 w hSw).2.2; have f4 := F2 w hSw; have f7 := hlt; have f8 := hz); go_simp; first | done | with_reducible rfl)); simp only [Act.put, List.setIfInBounds_toArray, List.set_cons_zero, List.set_cons_succ])
          refine wpAnyH_done (by kernel_rfl) ?_ _
          go_wp2_with fail
          go_roundw
          case rel => exact ⟨k + 1, by omega, by go_num, maysTo_more HTO.out HT.out HV.out HR1.out, hS⟩
          case measure => simp [intOf]; omega
        · have hz : ((v.k : Int) != 0) = true := by simp; omega
          by_cases hkt : v.k = t.toNat
          · have hr1 : rmay t v = true := by rw [HRM.out]; simp [hkt]
            have HR1 := Lib.hid hr1
            have hq : ((v.k : Int) != (t.toNat : Int)) = false := by simp; omega
            clear hr1 HRM hkt h0
            refine ah_start 26 (fun w' => Below w.heap.size w w') rfl (by kernel_rfl) hbel.drew ?_ ; intro hS
            (refine mv_val 0 (v := ?_) rfl (by kernel_rfl) (by kernel_rfl) (by kernel_rfl) (fun _ _ _ h => h) (by rfl) hS ?_ ?_; rotate_left; (focus (intro w hSw; (try dsimp only at hSw); (have f1 := (F1 w hSw).1; have f2 := (F1 w hSw).2.1; have f3 := (F1 w hSw).2.2; have f4 := F2 w hSw; have f7 := hlt; have f8 := hz; have f9 := hq); go_simp; first | done | with_reducible rfl)); simp only [Act.put, List.setIfInBounds_toArray, List.set_cons_zero, List.set_cons_succ])
            (refine mv_val 1 (v := ?_) rfl (by kernel_rfl) (by kernel_rfl) (by kernel_rfl) (fun _ _ _ h => h) (by rfl) hS ?_ ?_; rotate_left; (focus (intro w hSw; (try dsimp only at hSw); (have f1 := (F1 w hSw).1; have f2 := (F1 w hSw).2.1; have f3 := (F1 w hSw).2.2; have f4 := F2 w hSw; have f7 := hlt; have f8 := hz; have f9 := hq); go_simp; first | done | with_reducible rfl)); simp only [Act.put, List.setIfInBounds_toArray, List.set_cons_zero, List.set_cons_succ])
            (refine mv_val 2 (v := ?_) rfl (by kernel_rfl) (by kernel_rfl) (by kernel_rfl) (fun _ _ _ h => h) (by rfl) hS ?_ ?_; rotate_left; (focus (intro w hSw; (try dsimp only at hSw); (have f1 := (F1 w hSw).1; have f2 := (F1 w hSw).2.1; have f3 := (F1 w hSw).2.2; have f4 := F2 w hSw; have f7 := hlt; have f8 := hz; have f9 := hq); go_simp; first | done | with_reducible rfl)); simp only [Act.put, List.setIfInBounds_toArray, List.set_cons_zero, List.set_cons_succ])
            (refine mv_val 3 (v := ?_) rfl (by kernel_rfl) (by kernel_rfl) (by kernel_rfl) (fun _ _ _ h => h) (by rfl) hS ?_ ?_; rotate_left; (focus (intro w hSw; (try dsimp only at hSw); (have f1 := (F1 w hSw).1; have f2 := (F1 w hSw).2.1; have f3 := (F1 w hSw).2.2; have f4 := F2 w hSw; have f7 := hlt; have f8 := hz; have f9 := hq); go_simp; first | done | with_reducible rfl)); simp only [Act.put, List.setIfInBounds_toArray, List.set_cons_zero, List.set_cons_succ])
            (refine mv_call 4 (f := ?_) (args := ?_) rfl (by kernel_rfl) (by rfl) ?_ ?_; rotate_left 2; (focus (go_simp; first | done | with_reducible rfl | (refine ⟨?_, ?_⟩ <;> with_reducible rfl))))
            refine (HM.out _).mono ?_; rintro e w2 ⟨rfl, hb2⟩
            have hS2 : Below w.heap.size w w2 := hS.trans (hb2.mono hS.size)
            refine ⟨_, rfl, hS2, ?_⟩
            replace hS := hS2
            simp only [Act.put, List.setIfInBounds_toArray, List.set_cons_zero, List.set_cons_succ]
            (refine mv_val 5 (v := ?_) rfl (by kernel_rfl) (by kernel_rfl) (by kernel_rfl) (fun _ _ _ h => h) (by rfl) hS ?_ ?_; rotate_left; (focus (intro w hSw; (try dsimp only at hSw); (have f1 := (F1 w hSw).1; have f2 := (F1 w hSw).2.1; have f3 := (F1 w hSw).2.2; have f4 := F2 w hSw; have f7 := hlt; have f8 := hz; have f9 := hq); go_simp; first | done | with_reducible rfl)); simp only [Act.put, List.setIfInBounds_toArray, List.set_cons_zero, List.set_cons_succ])
            (refine mv_val 6 (v := ?_) rfl (by kernel_rfl) (by kernel_rfl) (by kernel_rfl) (fun _ _ _ h => h) (by rfl) hS ?_ ?_; rotate_left; (focus (intro w hSw; (try dsimp only at hSw); (have f1 := (F1 w hSw).1; have f2 := (F1 w hSw).2.1; have f3 := (F1 w hSw).2.2; have f4 := F2 w hSw; have f7 := hlt; have f8 := hz; have f9 := hq); go_simp; first | done | with_reducible rfl)); simp only [Act.put, List.setIfInBounds_toArray, List.set_cons_zero, List.set_cons_succ])
            (refine mv_val 7 (v := ?_) rfl (by kernel_rfl) (by kernel_rfl) (by kernel_rfl) (fun _ _ _ h => h) (by rfl) hS ?_ ?_; rotate_left; (focus (intro w hSw; (try dsimp only at hSw); (have f1 := (F1 w hSw).1; have f2 := (F1 w hSw).2.1; have f3 := (F1 w hSw).2.2; have f4 := F2 w hSw; have f7 := hlt; have f8 := hz; have f9 := hq); go_simp; first | done | with_reducible rfl)); simp only [Act.put, List.setIfInBounds_toArray, List.set_cons_zero, List.set_cons_succ])
            (refine mv_val 8 (v := ?_) rfl (by kernel_rfl) (by kernel_rfl) (by kernel_rfl) (fun _ _ _ h => h) (by rfl) hS ?_ ?_; rotate_left; (focus (intro w hSw; (try dsimp only at hSw); (have f1 := (F1 w hSw).1; have f2 := (F1 w hSw).2.1; have f3 := (F1 w hSw).2.2; have f4 := F2 w hSw; have f7 := hlt; have f8 := hz; have f9 := hq); go_simp; first | done | with_reducible rfl)); simp only [Act.put, List.setIfInBounds_toArray, List.set_cons_zero, List.set_cons_succ])
            (refine mv_val 9 (v := ?_) rfl (by kernel_rfl) (by kernel_rfl) (by kernel_rfl) (fun _ _ _ h => h) (by rfl) hS ?_ ?_; rotate_left; (focus (intro w hSw; (try dsimp only at hSw); (have f1 := (F1 w hSw).1; have f2 := (F1 w hSw).2.1; have f3 := (F1 w hSw).2.2; have f4 := F2 w hSw; have f7 := hlt; have f8 := hz; have f9 := hq); go_simp; first | done | with_reducible rfl)); simp only [Act.put, List.setIfInBounds_toArray, List.set_cons_zero, List.set_cons_succ])
            (refine mv_val 10 (v := ?_) rfl (by kernel_rfl) (by kernel_rfl) (by kernel_rfl) (fun _ _ _ h => h) (by rfl) hS ?_ ?_; rotate_left; (focus (intro w hSw; (try dsimp only at hSw); (have f1 := (F1 w hSw).1; have f2 := (F1 w hSw).2.1; have f3 := (F1 w hSw).2.2; have f4 := F2 w hSw; have f7 := hlt; have f8 := hz; have f9 := hq); go_simp; first | done | with_reducible rfl)); simp only [Act.put, List.setIfInBounds_toArray, List.set_cons_zero, List.set_cons_succ])
            (refine mv_val 11 (v := ?_) rfl (by kernel_rfl) (by kernel_rfl) (by kernel_rfl) (fun _ _ _ h => h) (by rfl) hS ?_ ?_; rotate_left; (focus (intro w hSw; (try dsimp only at hSw); (have f1 := (F1 w hSw).1; have f2 := (F1 w hSw).2.1; have f3 := (F1 w hSw).2.2; have f4 := F2 w hSw; have f7 := hlt; have f8 := hz; have f9 := hq); go_simp; first | done | with_reducible rfl)); simp only [Act.put, List.setIfInBounds_toArray, List.set_cons_zero, List.set_cons_succ])
            (refine mv_val 12 (v := ?_) rfl (by kernel_rfl) (by kernel_rfl) (by kernel_rfl) (fun _ _ _ h => h) (by rfl) hS ?_ ?_; rotate_left; (focus (intro w hSw; (try dsimp only at hSw); (have f1 := (F1 w hSw).1; have f2 := (F1 w hSw).2.1; have f3 := (F1 w hSw).2.2; have f4 := F2 w hSw; have f7 := hlt; have f8 := hz; have f9 := hq); go_simp; first | done | with_reducible rfl)); simp only [Act.put, List.setIfInBounds_toArray, List.set_cons_zero, List.set_cons_succ])
            (refine mv_val 13 (v := ?_) rfl (by kernel_rfl) (by kernel_rfl) (by kernel_rfl) (fun _ _ _ h => h) (by rfl) hS ?_ ?_; rotate_left; (focus (intro w hSw; (try dsimp only at hSw); (have f1 := (F1 w hSw).1; have f2 := (F1 w hSw).2.1; have f3 := (F1 w hSw).2.2; have f4 := F2 w hSw; have f7 := hlt; have f8 := hz; have f9 := hq); go_simp; first | done | with_reducible rfl)); simp only [Act.put, List.setIfInBounds_toArray, List.set_cons_zero, List.set_cons_succ])
            (refine mv_val 14 (v := ?_) rfl (by kernel_rfl) (by kernel_rfl) (by kernel_rfl) (fun _ _ _ h => h) (by rfl) hS ?_ ?_; rotate_left; (focus (intro w hSw; (try dsimp only at hSw); (have f1 := (F1 w hSw).1; have f2 := (F1 w hSw).2.1; have f3 := (F1 w hSw).2.2; have f4 := F2 w hSw; have f7 := hlt; have f8 := hz; have f9 := hq); go_simp; first | done | with_reducible rfl)); simp only [Act.put, List.setIfInBounds_toArray, List.set_cons_zero, List.set_cons_succ])
            (refine mv_val 15 (v := ?_) rfl (by kernel_rfl) (by kernel_rfl) (by kernel_rfl) (fun _ _ _ h => h) (by rfl) hS ?_ ?_; rotate_left; (focus (intro w hSw; (try dsimp only at hSw); (have f1 := (F1 w hSw).1; have f2 := (F1 w hSw).2.1; have f3 := (F1 w hSw).2.2; have f4 := F2 w hSw; have f7 := hlt; have f8 := hz; have f9 := hq); go_simp; first | done | with_reducible rfl)); simp only [Act.put, List.setIfInBounds_toArray, List.set_cons_zero, List.set_cons_succ])
            (refine mv_val 16 (v := ?_) rfl (by kernel_rfl) (by kernel_rfl) (by kernel_rfl) (fun _ _ _ h => h) (by rfl) hS ?_ ?_; rotate_left; (focus (intro w hSw; (try dsimp only at hSw); (have f1 := (F1 w hSw).1; have f2 := (F1 w hSw).2.1; have f3 := (F1 w hSw).2.2; have f4 := F2 w hSw; have f7 := hlt; have f8 := hz; have f9 := hq); go_simp; first | done | with_reducible rfl)); simp only [Act.put, List.setIfInBounds_toArray, List.set_cons_zero, List.set_cons_succ])
            (refine mv_val 17 (v := ?_) rfl (by kernel_rfl) (by kernel_rfl) (by kernel_rfl) (fun _ _ _ h => h) (by rfl) hS ?_ ?_; rotate_left; (focus (intro w hSw; (try dsimp only at hSw); (have f1 := (F1 w hSw).1; have f2 := (F1 w hSw).2.1; have f3 := (F1 w hSw).2.2; have f4 := F2 w hSw; have f7 := hlt; have f8 := hz; have f9 := hq); go_simp; first | done | with_reducible rfl)); simp only [Act.put, List.setIfInBounds_toArray, List.set_cons_zero, List.set_cons_succ])
            (refine mv_val 18 (v := ?_) rfl (by kernel_rfl) (by kernel_rfl) (by kernel_rfl) (fun _ _ _ h => h) (by rfl) hS ?_ ?_; rotate_left; (focus (intro w hSw; (try dsimp only at hSw); (have f1 := (F1 w hSw).1; have f2 := (F1 w hSw).2.1; have f3 := (F1 w hSw).2.2; have f4 := F2 w hSw; have f7 := hlt; have f8 := hz; have f9 := hq); go_simp; first | done | with_reducible rfl)); simp only [Act.put, List.setIfInBounds_toArray, List.set_cons_zero, List.set_cons_succ])
            (refine mv_val 19 (v := ?_) rfl (by kernel_rfl) (by kernel_rfl) (by kernel_rfl) (fun _ _ _ h => h) (by rfl) hS ?_ ?_; rotate_left; (focus (intro w hSw; (try dsimp only at hSw); (have f1 := (F1 w hSw).1; have f2 := (F1 w hSw).2.1; have f3 := (F1 w hSw).2.2; have f4 := F2 w hSw; have f7 := hlt; have f8 := hz; have f9 := hq); go_simp; first | done | with_reducible rfl)); simp only [Act.put, List.setIfInBounds_toArray, List.set_cons_zero, List.set_cons_succ])
            (refine mv_val 20 (v := ?_) rfl (by kernel_rfl) (by kernel_rfl) (by kernel_rfl) (fun _ _ _ h => h) (by rfl) hS ?_ ?_; rotate_left; (focus (intro w hSw; (try dsimp only at hSw); (have f1 := (F1 w hSw).1; have f2 := (F1 w hSw).2.1; have f3 := (F1 w hSw).2.2; have f4 := F2 w hSw; have f7 := hlt; have f8 := hz; have f9 := hq); go_simp; first | done | with_reducible rfl)); simp only [Act.put, List.setIfInBounds_toArray, List.set_cons_zero, List.set_cons_succ])
            (refine mv_val 21 (v := ?_) rfl (by kernel_rfl) (by kernel_rfl) (by kernel_rfl) (fun _ _ _ h => h) (by rfl) hS ?_ ?_; rotate_left; (focus (intro w hSw; (try dsimp only at hSw); (have f1 := (F1 w hSw).1; have f2 := (F1 w hSw).2.1; have f3 := (F1 w hSw).2.2; have f4 := F2 w hSw; have f7 := hlt; have f8 := hz; have f9 := hq); go_simp; first | done | with_reducible rfl)); simp only [Act.put, List.setIfInBounds_toArray, List.set_cons_zero, List.set_cons_succ])
            (refine mv_val 22 (v := ?_) rfl (by kernel_rfl) (by kernel_rfl) (by kernel_rfl) (fun _ _ _ h => h) (by rfl) hS ?_ ?_; rotate_left; (focus (intro w hSw; (try dsimp only at hSw); (have f1 := (F1 w hSw).1; have f2 := (F1 w hSw).2.1; have f3 := (F1 w hSw).2.2; have f4 := F2 w hSw; have f7 := hlt; have f8 := hz; have f9 := hq); go_simp; first | done | with_reducible rfl)); simp only [Act.put, List.setIfInBounds_toArray, List.set_cons_zero, List.set_cons_succ])
            (refine mv_val 23 (v := ?_) rfl (by kernel_rfl) (by kernel_rfl) (by kernel_rfl) (fun _ _ _ h => h) (by rfl) hS ?_ ?_; rotate_left; (focus (intro w hSw; (try dsimp only at hSw); (have f1 := (F1 w hSw).1; have f2 := (F1 w hSw).2.1; have f3 := (F1 w hSw).2.2; have f4 := F2 w hSw; have f7 := hlt; have f8 := hz; have f9 := hq); go_simp; first | done | with_reducible rfl)); simp only [Act.put, List.setIfInBounds_toArray, List.set_cons_zero, List.set_cons_succ])
            (refine mv_val 24 (v := ?_) rfl (by kernel_rfl) (by kernel_rfl) (by kernel_rfl) (fun _ _ _ h => h) (by rfl) hS ?_ ?_; rotate_left; (focus (intro w hSw; (try dsimp only at hSw); (have f1 := (F1 w hSw).1; have f2 := (F1 w hSw).2.1; have f3 := (F1 w hSw).2.2; have f4 := F2 w hSw; have f7 := hlt; have f8 := hz; have f9 := hq); go_simp; first | done | with_reducible rfl)); simp only [Act.put, List.setIfInBounds_toArray, List.set_cons_zero, List.set_cons_succ])
            (refine mv_val 25 (v := ?_) rfl (by kernel_rfl) (by kernel_rfl) (by kernel_rfl) (fun _ _ _ h => h) (by rfl) hS ?_ ?_; rotate_left; (focus (intro w hSw; (try dsimp only at hSw); (have f1 := (F1 w hSw).1; have f2 := (F1 w hSw).2.1; have f3 := (F1 w hSw).2.2; have f4 := F2 w hSw; have f7 := hlt; have f8 := hz; have f9 := hq); go_simp; first | done | with_reducible rfl)); simp only [Act.put, List.setIfInBounds_toArray, List.set_cons_zero, List.set_cons_succ])
            refine wpAnyH_done (by kernel_rfl) ?_ _
            go_wp2_with fail
            go_roundw
            case rel => exact ⟨k + 1, by omega, by go_num, maysTo_more HTO.out HT.out HV.out HR1.out, hS⟩
            case measure => simp [intOf]; omega
          · have hr1 : rmay t v = false := by rw [HRM.out]; simp [hkt, h0]
            have he : bl = false := by rw [HBL.out]; exact mays_no HT.out HV.out hr1
            subst he
            have hq : ((v.k : Int) != (t.toNat : Int)) = true := by simp; omega
            clear hr1 HRM hkt h0
            refine ah_start 26 (fun w' => Below w.heap.size w w') rfl (by kernel_rfl) hbel.drew ?_ ; intro hS
            (refine mv_val 0 (v := ?_) rfl (by kernel_rfl) (by kernel_rfl) (by kernel_rfl) (fun _ _ _ h => h) (by rfl) hS ?_ ?_; rotate_left; (focus (intro w hSw; (try dsimp only at hSw); (have f1 := (F1 w hSw).1; have f2 := (F1 w hSw).2.1; have f3 := (F1 w hSw).2.2; have f4 := F2 w hSw; have f7 := hlt; have f8 := hz; have f9 := hq); go_simp; first | done | with_reducible rfl)); simp only [Act.put, List.setIfInBounds_toArray, List.set_cons_zero, List.set_cons_succ])
            (refine mv_val 1 (v := ?_) rfl (by kernel_rfl) (by kernel_rfl) (by kernel_rfl) (fun _ _ _ h => h) (by rfl) hS ?_ ?_; rotate_left; (focus (intro w hSw; (try dsimp only at hSw); (have f1 := (F1 w hSw).1; have f2 := (F1 w hSw).2.1; have f3 := (F1 w hSw).2.2; have f4 := F2 w hSw; have f7 := hlt; have f8 := hz; have f9 := hq); go_simp; first | done | with_reducible rfl)); simp only [Act.put, List.setIfInBounds_toArray, List.set_cons_zero, List.set_cons_succ])
            (refine mv_val 2 (v := ?_) rfl (by kernel_rfl) (by kernel_rfl) (by kernel_rfl) (fun _ _ _ h => h) (by rfl) hS ?_ ?_; rotate_left; (focus (intro w hSw; (try dsimp only at hSw); (have f1 := (F1 w hSw).1; have f2 := (F1 w hSw).2.1; have f3 := (F1 w hSw).2.2; have f4 := F2 w hSw; have f7 := hlt; have f8 := hz; have f9 := hq); go_simp; first | done | with_reducible rfl)); simp only [Act.put, List.setIfInBounds_toArray, List.set_cons_zero, List.set_cons_succ])
            (refine mv_val 3 (v := ?_) rfl (by kernel_rfl) (by kernel_rfl) (by kernel_rfl) (fun _ _ _ h => h) (by rfl) hS ?_ ?_; rotate_left; (focus (intro w hSw; (try dsimp only at hSw); (have f1 := (F1 w hSw).1; have f2 := (F1 w hSw).2.1; have f3 := (F1 w hSw).2.2; have f4 := F2 w hSw; have f7 := hlt; have f8 := hz; have f9 := hq); go_simp; first | done | with_reducible rfl)); simp only [Act.put, List.setIfInBounds_toArray, List.set_cons_zero, List.set_cons_succ])
            (refine mv_call 4 (f := ?_) (args := ?_) rfl (by kernel_rfl) (by rfl) ?_ ?_; rotate_left 2; (focus (go_simp; first | done | with_reducible rfl | (refine ⟨?_, ?_⟩ <;> with_reducible rfl))))
            refine (HM.out _).mono ?_; rintro e w2 ⟨rfl, hb2⟩
            have hS2 : Below w.heap.size w w2 := hS.trans (hb2.mono hS.size)
            refine ⟨_, rfl, hS2, ?_⟩
            replace hS := hS2
            simp only [Act.put, List.setIfInBounds_toArray, List.set_cons_zero, List.set_cons_succ]
            (refine mv_val 5 (v := ?_) rfl (by kernel_rfl) (by kernel_rfl) (by kernel_rfl) (fun _ _ _ h => h) (by rfl) hS ?_ ?_; rotate_left; (focus (intro w hSw; (try dsimp only at hSw); (have f1 := (F1 w hSw).1; have f2 := (F1 w hSw).2.1; have f3 := (F1 w hSw).2.2; have f4 := F2 w hSw; have f7 := hlt; have f8 := hz; have f9 := hq); go_simp; first | done | with_reducible rfl)); simp only [Act.put, List.setIfInBounds_toArray, List.set_cons_zero, List.set_cons_succ])
            (refine mv_val 6 (v := ?_) rfl (by kernel_rfl) (by kernel_rfl) (by kernel_rfl) (fun _ _ _ h => h) (by rfl) hS ?_ ?_; rotate_left; (focus (intro w hSw; (try dsimp only at hSw); (have f1 := (F1 w hSw).1; have f2 := (F1 w hSw).2.1; have f3 := (F1 w hSw).2.2; have f4 := F2 w hSw; have f7 := hlt; have f8 := hz; have f9 := hq); go_simp; first | done | with_reducible rfl)); simp only [Act.put, List.setIfInBounds_toArray, List.set_cons_zero, List.set_cons_succ])
            (refine mv_val 7 (v := ?_) rfl (by kernel_rfl) (by kernel_rfl) (by kernel_rfl) (fun _ _ _ h => h) (by rfl) hS ?_ ?_; rotate_left; (focus (intro w hSw; (try dsimp only at hSw); (have f1 := (F1 w hSw).1; have f2 := (F1 w hSw).2.1; have f3 := (F1 w hSw).2.2; have f4 := F2 w hSw; have f7 := hlt; have f8 := hz; have f9 := hq); go_simp; first | done | with_reducible rfl)); simp only [Act.put, List.setIfInBounds_toArray, List.set_cons_zero, List.set_cons_succ])
            (refine mv_val 8 (v := ?_) rfl (by kernel_rfl) (by kernel_rfl) (by kernel_rfl) (fun _ _ _ h => h) (by rfl) hS ?_ ?_; rotate_left; (focus (intro w hSw; (try dsimp only at hSw); (have f1 := (F1 w hSw).1; have f2 := (F1 w hSw).2.1; have f3 := (F1 w hSw).2.2; have f4 := F2 w hSw; have f7 := hlt; have f8 := hz; have f9 := hq); go_simp; first | done | with_reducible rfl)); simp only [Act.put, List.setIfInBounds_toArray, List.set_cons_zero, List.set_cons_succ])
            (refine mv_val 9 (v := ?_) rfl (by kernel_rfl) (by kernel_rfl) (by kernel_rfl) (fun _ _ _ h => h) (by rfl) hS ?_ ?_; rotate_left; (focus (intro w hSw; (try dsimp only at hSw); (have f1 := (F1 w hSw).1; have f2 := (F1 w hSw).2.1; have f3 := (F1 w hSw).2.2; have f4 := F2 w hSw; have f7 := hlt; have f8 := hz; have f9 := hq); go_simp; first | done | with_reducible rfl)); simp only [Act.put, List.setIfInBounds_toArray, List.set_cons_zero, List.set_cons_succ])
            (refine mv_val 10 (v := ?_) rfl (by kernel_rfl) (by kernel_rfl) (by kernel_rfl) (fun _ _ _ h => h) (by rfl) hS ?_ ?_; rotate_left; (focus (intro w hSw; (try dsimp only at hSw); (have f1 := (F1 w hSw).1; have f2 := (F1 w hSw).2.1; have f3 := (F1 w hSw).2.2; have f4 := F2 w hSw; have f7 := hlt; have f8 := hz; have f9 := hq); go_simp; first | done | with_reducible rfl)); simp only [Act.put, List.setIfInBounds_toArray, List.set_cons_zero, List.set_cons_succ])
            (refine mv_val 11 (v := ?_) rfl (by kernel_rfl) (by kernel_rfl) (by kernel_rfl) (fun _ _ _ h => h) (by rfl) hS ?_ ?_; rotate_left; (focus (intro w hSw; (try dsimp only at hSw); (have f1 := (F1 w hSw).1; have f2 := (F1 w hSw).2.1; have f3 := (F1 w hSw).2.2; have f4 := F2 w hSw; have f7 := hlt; have f8 := hz; have f9 := hq); go_simp; first | done | with_reducible rfl)); simp only [Act.put, List.setIfInBounds_toArray, List.set_cons_zero, List.set_cons_succ])
            (refine mv_val 12 (v := ?_) rfl (by kernel_rfl) (by kernel_rfl) (by kernel_rfl) (fun _ _ _ h => h) (by rfl) hS ?_ ?_; rotate_left; (focus (intro w hSw; (try dsimp only at hSw); (have f1 := (F1 w hSw).1; have f2 := (F1 w hSw).2.1; have f3 := (F1 w hSw).2.2; have f4 := F2 w hSw; have f7 := hlt; have f8 := hz; have f9 := hq); go_simp; first | done | with_reducible rfl)); simp only [Act.put, List.setIfInBounds_toArray, List.set_cons_zero, List.set_cons_succ])
            (refine mv_val 13 (v := ?_) rfl (by kernel_rfl) (by kernel_rfl) (by kernel_rfl) (fun _ _ _ h => h) (by rfl) hS ?_ ?_; rotate_left; (focus (intro w hSw; (try dsimp only at hSw); (have f1 := (F1 w hSw).1; have f2 := (F1 w hSw).2.1; have f3 := (F1 w hSw).2.2; have f4 := F2 w hSw; have f7 := hlt; have f8 := hz; have f9 := hq); go_simp; first | done | with_reducible rfl)); simp only [Act.put, List.setIfInBounds_toArray, List.set_cons_zero, List.set_cons_succ])
            (refine mv_val 14 (v := ?_) rfl (by kernel_rfl) (by kernel_rfl) (by kernel_rfl) (fun _ _ _ h => h) (by rfl) hS ?_ ?_; rotate_left; (focus (intro w hSw; (try dsimp only at hSw); (have f1 := (F1 w hSw).1; have f2 := (F1 w hSw).2.1; have f3 := (F1 w hSw).2.2; have f4 := F2 w hSw; have f7 := hlt; have f8 := hz; have f9 := hq); go_simp; first | done | with_reducible rfl)); simp only [Act.put, List.setIfInBounds_toArray, List.set_cons_zero, List.set_cons_succ])
            (refine mv_val 15 (v := ?_) rfl (by kernel_rfl) (by kernel_rfl) (by kernel_rfl) (fun _ _ _ h => h) (by rfl) hS ?_ ?_; rotate_left; (focus (intro w hSw; (try dsimp only at hSw); (have f1 := (F1 w hSw).1; have f2 := (F1 w hSw).2.1; have f3 := (F1 w hSw).2.2; have f4 := F2 w hSw; have f7 := hlt; have f8 := hz; have f9 := hq); go_simp; first | done | with_reducible rfl)); simp only [Act.put, List.setIfInBounds_toArray, List.set_cons_zero, List.set_cons_succ])
            (refine mv_val 16 (v := ?_) rfl (by kernel_rfl) (by kernel_rfl) (by kernel_rfl) (fun _ _ _ h => h) (by rfl) hS ?_ ?_; rotate_left; (focus (intro w hSw; (try dsimp only at hSw); (have f1 := (F1 w hSw).1; have f2 := (F1 w hSw).2.1; have f3 := (F1 w hSw).2.2; have f4 := F2 w hSw; have f7 := hlt; have f8 := hz; have f9 := hq); go_simp; first | done | with_reducible rfl)); simp only [Act.put, List.setIfInBounds_toArray, List.set_cons_zero, List.set_cons_succ])
            (refine mv_val 17 (v := ?_) rfl (by kernel_rfl) (by kernel_rfl) (by kernel_rfl) (fun _ _ _ h => h) (by rfl) hS ?_ ?_; rotate_left; (focus (intro w hSw; (try dsimp only at hSw); (have f1 := (F1 w hSw).1; have f2 := (F1 w hSw).2.1; have f3 := (F1 w hSw).2.2; have f4 := F2 w hSw; have f7 := hlt; have f8 := hz; have f9 := hq); go_simp; first | done | with_reducible rfl)); simp only [Act.put, List.setIfInBounds_toArray, List.set_cons_zero, List.set_cons_succ])
            (refine mv_val 18 (v := ?_) rfl (by kernel_rfl) (by kernel_rfl) (by kernel_rfl) (fun _ _ _ h => h) (by rfl) hS ?_ ?_; rotate_left; (focus (intro w hSw; (try dsimp only at hSw); (have f1 := (F1 w hSw).1; have f2 := (F1 w hSw).2.1; have f3 := (F1 w hSw).2.2; have f4 := F2 w hSw; have f7 := hlt; have f8 := hz; have f9 := hq); go_simp; first | done | with_reducible rfl)); simp only [Act.put, List.setIfInBounds_toArray, List.set_cons_zero, List.set_cons_succ])
            (refine mv_val 19 (v := ?_) rfl (by kernel_rfl) (by kernel_rfl) (by kernel_rfl) (fun _ _ _ h => h) (by rfl) hS ?_ ?_; rotate_left; (focus (intro w hSw; (try dsimp only at hSw); (have f1 := (F1 w hSw).1; have f2 := (F1 w hSw).2.1; have f3 := (F1 w hSw).2.2; have f4 := F2 w hSw; have f7 := hlt; have f8 := hz; have f9 := hq); go_simp; first | done | with_reducible rfl)); simp only [Act.put, List.setIfInBounds_toArray, List.set_cons_zero, List.set_cons_succ])
            (refine mv_val 20 (v := ?_) rfl (by kernel_rfl) (by kernel_rfl) (by kernel_rfl) (fun _ _ _ h => h) (by rfl) hS ?_ ?_; rotate_left; (focus (intro w hSw; (try dsimp only at hSw); (have f1 := (F1 w hSw).1; have f2 := (F1 w hSw).2.1; have f3 := (F1 w hSw).2.2; have f4 := F2 w hSw; have f7 := hlt; have f8 := hz; have f9 := hq); go_simp; first | done | with_reducible rfl)); simp only [Act.put, List.setIfInBounds_toArray, List.set_cons_zero, List.set_cons_succ])
            (refine mv_val 21 (v := ?_) rfl (by kernel_rfl) (by kernel_rfl) (by kernel_rfl) (fun _ _ _ h => h) (by rfl) hS ?_ ?_; rotate_left; (focus (intro w hSw; (try dsimp only at hSw); (have f1 := (F1 w hSw).1; have f2 := (F1 w hSw).2.1; have f3 := (F1 w hSw).2.2; have f4 := F2 w hSw; have f7 := hlt; have f8 := hz; have f9 := hq); go_simp; first | done | with_reducible rfl)); simp only [Act.put, List.setIfInBounds_toArray, List.set_cons_zero, List.set_cons_succ])
            (refine mv_val 22 (v := ?_) rfl (by kernel_rfl) (by kernel_rfl) (by kernel_rfl) (fun _ _ _ h => h) (by rfl) hS ?_ ?_; rotate_left; (focus (intro w hSw; (try dsimp only at hSw); (have f1 := (F1 w hSw).1; have f2 := (F1 w hSw).2.1; have f3 := (F1 w hSw).2.2; have f4 := F2 w hSw; have f7 := hlt; have f8 := hz; have f9 := hq); go_simp; first | done | with_reducible rfl)); simp only [Act.put, List.setIfInBounds_toArray, List.set_cons_zero, List.set_cons_succ])
            (refine mv_val 23 (v := ?_) rfl (by kernel_rfl) (by kernel_rfl) (by kernel_rfl) (fun _ _ _ h => h) (by rfl) hS ?_ ?_; rotate_left; (focus (intro w hSw; (try dsimp only at hSw); (have f1 := (F1 w hSw).1; have f2 := (F1 w hSw).2.1; have f3 := (F1 w hSw).2.2; have f4 := F2 w hSw; have f7 := hlt; have f8 := hz; have f9 := hq); go_simp; first | done | with_reducible rfl)); simp only [Act.put, List.setIfInBounds_toArray, List.set_cons_zero, List.set_cons_succ])
            (refine mv_val 24 (v := ?_) rfl (by kernel_rfl) (by kernel_rfl) (by kernel_rfl) (fun _ _ _ h => h) (by rfl) hS ?_ ?_; rotate_left; (focus (intro w hSw; (try dsimp only at hSw); (have f1 := (F1 w hSw).1; have f2 := (F1 w hSw).2.1; have f3 := (F1 w hSw).2.2; have f4 := F2 w hSw; have f7 := hlt; have f8 := hz; have f9 := hq); go_simp; first | done | with_reducible rfl)); simp only [Act.put, List.setIfInBounds_toArray, List.set_cons_zero, List.set_cons_succ])
            (refine mv_val 25 (v := ?_) rfl (by kernel_rfl) (by kernel_rfl) (by kernel_rfl) (fun _ _ _ h => h) (by rfl) hS ?_ ?_; rotate_left; (focus (intro w hSw; (try dsimp only at hSw); (have f1 := (F1 w hSw).1; have f2 := (F1 w hSw).2.1; have f3 := (F1 w hSw).2.2; have f4 := F2 w hSw; have f7 := hlt; have f8 := hz; have f9 := hq); go_simp; first | done | with_reducible rfl)); simp only [Act.put, List.setIfInBounds_toArray, List.set_cons_zero, List.set_cons_succ])
            refine wpAnyH_done (by kernel_rfl) ?_ _
            go_wp2_with fail
            go_ret
            exact ⟨rfl, hS⟩
    · have hkn : k = n := by omega
      have he : bl = true := by rw [HBL.out]; exact maysTo_all HTO.out (by rw [← HN.out]; omega)
      subst he
      subst hkn
      go_wp2_with fail
      go_ret
      exact ⟨rfl, hbel⟩

/-! ### append of a string -/
theorem strCells_eq (t : List UInt8) : Lib.strCells ⟨t.toArray⟩ = cells t := by simp [Lib.strCells, cells]
theorem run_app_str (w : World) (ty : TypeId) {base : Nat} {v : Value} {n : Nat} {xs : List Value} (hown : w.ownsRow base 5 1 v n xs) (t : List UInt8) (h63 : n + t.length ≤ 4611686018427) (hbase : base ≤ w.heap.size) :
    ∃ v' w', (Builtin.append_ #[22, 9] ty #[v, .string ⟨t.toArray⟩]).run Try.prog w = .ok v' w' ∧ w'.ownsRow base 5 1 v' (n + t.length) (xs ++ cells t) ∧ w.grownBy w' v.ownBlock := by
  obtain ⟨i0, hi, hz0, hz1, hz2⟩ := info_parts Try.infoU8
  have hsz : (⟨t.toArray⟩ : ByteArray).size = t.length := by simp [ByteArray.size]
  obtain ⟨v', w', hrun, h2, h3, _⟩ := Lib.run_append_own_string (P := Try.prog) w base 22 9 ty 5 i0 Try.underlying22 Try.underlying9 hi hz0 hz1 hz2 v n xs hown ⟨t.toArray⟩ (by rw [hsz]; unfold maxLen; omega) (by rw [hsz]; omega) hbase
  rw [hsz, strCells_eq] at h2
  exact ⟨v', w', hrun, h2, h3⟩
theorem wp_app_str {w : World} {o : Oper} {a : Act} {k : Act → World → Prop} {Q : Exit → Act → World → Prop} (s x : Operand)
    (ho : o.op = .call { callee := .builtin .append, args := #[s, x], argTypes := #[22, 9] })
    {base : Nat} {v : Value} {n : Nat} {xs : List Value} (hown : w.ownsRow base 5 1 v n xs) (hs : a.eval s = v) {t : List UInt8} (hx : a.eval x = txt t) (h63 : n + t.length ≤ 4611686018427) (hbase : base ≤ w.heap.size)
    (h : ∀ v' w', w'.ownsRow base 5 1 v' (n + t.length) (xs ++ cells t) → w.grownBy w' v.ownBlock → k (a.put o.dst v') w') : o.wp Try.prog a w k Q := by
  obtain ⟨v', w', hrun, h2, h3⟩ := run_app_str w o.type hown t h63 hbase
  unfold Oper.wp execOp
  simp only [ho, resolve, invoke, builtin, Sem.run_bind, Sem.run_pure, Result.andThen_ok, List.map_toArray, List.map_cons, List.map_nil, hs, hx, hrun]
  exact h v' w' h2 h3
theorem wpList_app_str {w : World} {ops : Array Oper} {rest : List Oper} {o : Oper} {a : Act} {Q : Exit → Act → World → Prop} (hgd : o.guard = none) (s x : Operand)
    (ho : o.op = .call { callee := .builtin .append, args := #[s, x], argTypes := #[22, 9] })
    {base : Nat} {v : Value} {n : Nat} {xs : List Value} (hown : w.ownsRow base 5 1 v n xs) (hs : a.eval s = v) {t : List UInt8} (hx : a.eval x = txt t) (h63 : n + t.length ≤ 4611686018427) (hbase : base ≤ w.heap.size)
    (h : ∀ v' w', w'.ownsRow base 5 1 v' (n + t.length) (xs ++ cells t) → w.grownBy w' v.ownBlock → wpList Try.prog ops Q rest (a.put o.dst v') w') : wpList Try.prog ops Q (o :: rest) a w :=
  wpList_plain hgd fun _ hK => wp_app_str s x ho hown hs hx h63 hbase fun v' w' h2 h3 => hK _ _ (h v' w' h2 h3)

/-! ### the table of ways -/
def fnD : Value → Option (DataW Unit)
  | .func (.func n) a b => if a = #[] ∧ b = #[] then some (.lit (.int .i64 n)) else none
  | .nilFunc => some (.lit (.int .i64 (-1)))
  | _ => none
theorem fnD_inv {v : Value} {n : Nat} (h : fnD v = some (.lit (.int .i64 n))) : v = .func (.func n) #[] #[] := by
  unfold fnD at h
  split at h
  · rename_i m a b
    split at h
    · rename_i hc
      obtain ⟨rfl, rfl⟩ := hc
      simp at h
      have hmn : m = n := Int.ofNat.inj h
      rw [hmn]
    · cases h
  · simp at h
  · cases h
def wayE : Value → Option (DataW Unit × List MemPlace)
  | .agg ⟨[a, b]⟩ => match fnD a, fnD b with
    | some x, some y => some (.agg [x, y], [])
    | _, _ => none
  | _ => none
abbrev wd (m n : Nat) : DataW Unit := .agg [.lit (.int .i64 m), .lit (.int .i64 n)]
abbrev wv (m n : Nat) : Value := .agg #[.func (.func m) #[] #[], .func (.func n) #[] #[]]
theorem wayE_inv {v : Value} {m n : Nat} {ps : List MemPlace} (h : wayE v = some (wd m n, ps)) : v = wv m n := by
  unfold wayE at h
  split at h
  · rename_i a b
    split at h
    · rename_i x y hx hy
      simp only [Option.some.injEq, Prod.mk.injEq, DataW.agg.injEq, List.cons.injEq, and_true] at h
      obtain ⟨⟨rfl, rfl⟩, _⟩ := h
      rw [fnD_inv hx, fnD_inv hy]
    · cases h
  · cases h
/-- the table -/
abbrev wtab : DataW Unit := .map [(tk 1, wd 72 73), (tk 2, wd 74 76), (tk 3, wd 79 80)]
theorem zeroWay (w : World) : (zeroValue 79).run Try.prog w = .ok (.agg #[.nilFunc, .nilFunc]) w := by kernel_rfl
abbrev zway : DataW Unit := .agg [.lit (.int .i64 (-1)), .lit (.int .i64 (-1))]

/-- 'm[k]' where what the table holds is known -/
theorem wpList_lookup_tab {H : Type} {P : Program} (w : World) {ops : Array Oper} {rest : List Oper} {o : Oper} {a : Act} {Q : Exit → Act → World → Prop} (hg : o.guard = none) (m x : Operand) (t : TypeId) (hop : o.op = Op.lookup t m x false)
    (k e : TypeId) (K : Keyed P k) (ht : P.underlying t = some (.map k e)) (R : Value → Option (DataW H × List MemPlace)) {z : Value} (hz : (zeroValue e).run P w = .ok z w) (zd : DataW H) (zp : List MemPlace) (hzd : R z = some (zd, zp)) (b n : Nat) (D : DataW H)
    (hm : a.eval m = .map (some b)) (hown : w.ownsMap P k R b n D) (key : Value) (kl : Lit) (hx : a.eval x = key) (hkey : keyOf P k key = some kl) (val : Value) (hval : ∀ v ps, R v = some (D.atKey kl zd, ps) → v = val)
    (hK : wpList P ops Q rest (a.put o.dst val) w) : wpList P ops Q (o :: rest) a w := by
  refine wpList_plain hg fun K' hK' => ?_
  obtain ⟨v, ps, hrun, hv⟩ := hown.lookup K ht hz hzd hkey
  obtain rfl := hval v ps hv
  unfold Oper.wp
  simp [execOp, hop, hm, hx, hrun, Result.andThen]
  exact hK' _ _ hK

set_option maxRecDepth 100000 in
theorem ways_any (w : World) : Calls Try.prog 44 #[] w fun e w' => e = .returned (.map (some w.heap.size)) ∧ w'.ownsMap Try.prog 5 wayE w.heap.size 3 wtab ∧ Below w.heap.size w w' := by
  have hmm := @run_makeMap Try.prog
  go_enter Try.func44, Try.ntmps44
  have hown0 := World.ownsMap_made w Try.prog 5 wayE
  go_wp2_with (first
    | (refine wpList_insert_own _ rfl _ _ _ 73 rfl 5 79 law8 Try.underlying73 wayE w.heap.size 2 _ rfl hown2 (by unfold maxLen; omega) _ _ (tk 3) rfl rfl (key8 3) (wd 79 80) [] rfl ?_; intro w3 hown3 hg3)
    | (refine wpList_insert_own _ rfl _ _ _ 73 rfl 5 79 law8 Try.underlying73 wayE w.heap.size 1 _ rfl hown1 (by unfold maxLen; omega) _ _ (tk 2) rfl rfl (key8 2) (wd 74 76) [] rfl ?_; intro w2 hown2 hg2)
    | (refine wpList_insert_own _ rfl _ _ _ 73 rfl 5 79 law8 Try.underlying73 wayE w.heap.size 0 _ rfl hown0 (by unfold maxLen; omega) _ _ (tk 1) rfl rfl (key8 1) (wd 72 73) [] rfl ?_; intro w1 hown1 hg1))
  go_ret
  have hb : Below w.heap.size w w3 := ((((Below.refl _ w).alloc (Nat.le_refl _) _).grown hg1 (by simp) (fun k hk => by simp at hk; omega)).grown hg2 (by have := hg1.size; simp at this; omega) (fun k hk => by simp at hk; omega)).grown hg3 (by have := hg1.size; have := hg2.size; simp at *; omega) (fun k hk => by simp at hk; omega)
  exact ⟨rfl, hown3, hb⟩
theorem own_ne_map {H : Type} {P : Program} {k : TypeId} {R : Value → Option (DataW H × List MemPlace)} {w : World} {b m base n sz : Nat} {e : TypeId} {D : DataW H} {v : Value} {xs : List Value} (h : w.ownsRow base e sz v n xs) (hm : w.ownsMap P k R b m D) : v.ownBlock ≠ some b := by
  obtain ⟨es, clock, h1, _⟩ := hm
  rcases h.2 with ⟨rfl, _⟩ | ⟨g, cap, cur, rfl, _, hg, _⟩
  · simp [Value.ownBlock]
  · simp only [Value.ownBlock, ne_eq, Option.some.injEq]
    rintro rfl
    rw [h1] at hg; cases hg
end Go.Proofs.Ythkpgjcnnfdibaa.Rw

/-! The walks of the six functions of the table row.ways (layer 4): a value laid behind bytes of the call's own; a value read. No condition but sizes. -/
namespace Go.Proofs.Ythkpgjcnnfdibaa.Rw
open Go.RowKit Go.Maps
set_option linter.unusedVariables false
set_option linter.unusedSimpArgs false

/-- What a call leaves that lays bytes behind ones of the call's own: they lie there or in new memory; nothing else has turned. -/
def RetG (w : World) (base : Nat) (vb : Value) (l : List UInt8) (e : Ending) (w' : World) : Prop :=
  ∃ v', e = .returned v' ∧ w'.ownsRow base 5 1 v' l.length (cells l) ∧ Below base w w' ∧ ∀ k, k < w.heap.size → vb.ownBlock ≠ some k → w'.heap[k]? = w.heap[k]?
theorem own_lower {w : World} {base B n sz : Nat} {e : TypeId} {v : Value} {xs : List Value} (h : w.ownsRow B e sz v n xs) (hB : base ≤ B) : w.ownsRow base e sz v n xs := by
  obtain ⟨h1, h2⟩ := h
  refine ⟨h1, ?_⟩
  rcases h2 with h2 | ⟨g, cap, cur, hv, hb, rest⟩
  · exact .inl h2
  · exact .inr ⟨g, cap, cur, hv, by omega, rest⟩
theorem cv_block (w : World) (k n x : Value) (T : TypeId) : (w.alloc (.cells #[k, n, x] T)).cell? ⟨w.heap.size, 0, none⟩ = some k ∧ (w.alloc (.cells #[k, n, x] T)).cell? ⟨w.heap.size, 1, none⟩ = some n ∧ (w.alloc (.cells #[k, n, x] T)).cell? ⟨w.heap.size, 2, none⟩ = some x := by
  refine ⟨?_, ?_, ?_⟩ <;> simp [go_sem]

section
variable (base : Nat) (A : Option Addr) (c : Nat) (b : List UInt8) (w : World) (hown : w.ownsRow base 5 1 (.slice A b.length c) b.length (cells b)) (hbase : base ≤ w.heap.size) (hlen : b.length ≤ 4294967296)
include hown hbase hlen

set_option maxRecDepth 100000 in
theorem put1_any (n : Nat) (t : List UInt8) (hn : n = 0 ∨ n = 1) :
    Calls Try.prog 72 #[.slice A b.length c, va ⟨1, (n : Int), t⟩] w (RetG w base (.slice A b.length c) (b ++ [n.toUInt8])) := by
  have hn1 : n < 256 := by omega
  go_enter Try.func72, Try.ntmps72
  go_wp2_with (at_builtin; refine wpList_app El_u8 rfl _ _ rfl ((hown.alloc _).alloc _) rfl rfl (by exact rd_one _ _ _ _ _ (World.size_alloc _ _).symm (Nat.lt_add_one _)) rfl one_int (by unfold maxLen; omega) (by omega) (by simp; omega) ?_; intro v2 w2 hown2 hg2 _)
  have hb2 : Below base w w2 := (((Below.refl base w).alloc hbase _).alloc (by simp; omega) _).trans (own_below ((hown.alloc _).alloc _) hg2 (by simp; omega))
  have hk : ∀ k, k < w.heap.size → (Value.slice A b.length c).ownBlock ≠ some k → w2.heap[k]? = w.heap[k]? := fun k hk hne =>
    (hg2.block k (by simp; omega) (fun e => hne e.symm)).trans ((((Below.refl w.heap.size w).alloc (Nat.le_refl _) _).alloc (by simp) _).block k hk)
  go_ret
  refine ⟨v2, rfl, ?_, hb2, hk⟩
  rw [cells_snoc _ hn1, List.length_append, List.length_singleton]
  exact hown2

set_option maxRecDepth 100000 in
theorem put2_any (n : Int) (t : List UInt8) (hn : i64r n) :
    Calls Try.prog 74 #[.slice A b.length c, va ⟨2, n, t⟩] w (RetG w base (.slice A b.length c) (b ++ vput (zig n).toNat)) := by
  have hz := zig_bd n hn.1 hn.2
  obtain ⟨u, hu⟩ : ∃ u : Nat, zig n = u := Int.eq_ofNat_of_zero_le hz.1
  have hu2 : (zig n).toNat = u := by omega
  have hub : u < 18446744073709551616 := by omega
  have Z0 := fun w => Zig_any n hn.1 hn.2 w
  rw [hu] at Z0
  rw [hu2]
  have HZ := Lib.hid Z0
  clear Z0 hu hz hu2
  go_enter Try.func74, Try.ntmps74
  go_wp2_with fail
  refine (HZ.out _).mono ?_; rintro e w1 ⟨rfl, hw1⟩
  go_wp2_with fail
  have hown1 : w1.ownsRow base 5 1 (.slice A b.length c) b.length (cells b) := by rw [← hw1]; exact hown.alloc _
  have hb1 : Below w.heap.size w w1 := by rw [← hw1]; exact (Below.refl _ _).alloc (Nat.le_refl _) _
  refine (Put_any _ A c b u hub w1 (rd_own hown1) hlen).mono ?_; rintro e w2 ⟨A2, c2, rfl, hown2, hb2⟩
  have hb : Below w.heap.size w w2 := hb1.trans (hb2.mono hb1.size)
  have hs1 := hb1.size
  clear hw1
  go_wp2_with fail
  go_ret
  refine ⟨.slice A2 (b ++ vput u).length c2, ?_, own_lower hown2 (by omega), hb.mono hbase, fun k hk _ => hb.block k hk⟩
  rw [List.length_append]; rfl

set_option maxHeartbeats 1000000 in
set_option maxRecDepth 100000 in
theorem put3_any (n : Int) (t : List UInt8) (ht : t.length ≤ 4294967296) :
    Calls Try.prog 79 #[.slice A b.length c, va ⟨3, n, t⟩] w (RetG w base (.slice A b.length c) (b ++ (vput t.length ++ t))) := by
  have hlt := vput_length64 (show t.length < 18446744073709551616 by omega)
  go_enter Try.func79, Try.ntmps79
  go_wp2_with fail
  obtain ⟨w1, hw1⟩ : ∃ w1, w1 = w.alloc (.cells #[.int .u8 3, .int .i64 n, txt t] 46) := ⟨_, rfl⟩
  have hc : w1.cell? ⟨w.heap.size, 2, none⟩ = some (txt t) := by rw [hw1]; exact (cv_block w _ _ _ _).2.2
  have hown1 : w1.ownsRow base 5 1 (.slice A b.length c) b.length (cells b) := by rw [hw1]; exact hown.alloc _
  have hb1 : Below w.heap.size w w1 := by rw [hw1]; exact (Below.refl _ _).alloc (Nat.le_refl _) _
  have hz1 : w1.heap.size = w.heap.size + 1 := by rw [hw1]; simp
  rw [← hw1]
  have F1 : ∀ w', Below w1.heap.size w1 w' → w'.cell? ⟨w.heap.size, 2, none⟩ = some (txt t) := fun w' h => cell_be hc h (by show w.heap.size < _; omega)
  clear hc hw1
  have hwr : IntKind.u64.wrap (t.length : Int) = (t.length : Int) := by rw [IntKind.wrap_u64]; omega
  refine ah_start 10 (fun w' => Below w1.heap.size w1 w') rfl (by kernel_rfl) (Below.refl _ _).drew ?_ ; intro hS
  (refine mv_val 0 (v := ?_) rfl (by kernel_rfl) (by kernel_rfl) (by kernel_rfl) (fun _ _ _ h => h) (by rfl) hS ?_ ?_; rotate_left; (focus (intro w hSw; (try dsimp only at hSw); (have f1 := F1 w hSw; have f2 := hwr); go_simp; first | done | with_reducible rfl)); simp only [Act.put, List.setIfInBounds_toArray, List.set_cons_zero, List.set_cons_succ])
  (refine mv_val 1 (v := ?_) rfl (by kernel_rfl) (by kernel_rfl) (by kernel_rfl) (fun _ _ _ h => h) (by rfl) hS ?_ ?_; rotate_left; (focus (intro w hSw; (try dsimp only at hSw); (have f1 := F1 w hSw; have f2 := hwr); go_simp; first | done | with_reducible rfl)); simp only [Act.put, List.setIfInBounds_toArray, List.set_cons_zero, List.set_cons_succ])
  (refine mv_val 2 (v := ?_) rfl (by kernel_rfl) (by kernel_rfl) (by kernel_rfl) (fun _ _ _ h => h) (by rfl) hS ?_ ?_; rotate_left; (focus (intro w hSw; (try dsimp only at hSw); (have f1 := F1 w hSw; have f2 := hwr); go_simp; first | done | with_reducible rfl)); simp only [Act.put, List.setIfInBounds_toArray, List.set_cons_zero, List.set_cons_succ])
  (refine mv_val 3 (v := ?_) rfl (by kernel_rfl) (by kernel_rfl) (by kernel_rfl) (fun _ _ _ h => h) (by rfl) hS ?_ ?_; rotate_left; (focus (intro w hSw; (try dsimp only at hSw); (have f1 := F1 w hSw; have f2 := hwr); go_simp; first | done | with_reducible rfl)); simp only [Act.put, List.setIfInBounds_toArray, List.set_cons_zero, List.set_cons_succ])
  (refine mv_val 4 (v := ?_) rfl (by kernel_rfl) (by kernel_rfl) (by kernel_rfl) (fun _ _ _ h => h) (by rfl) hS ?_ ?_; rotate_left; (focus (intro w hSw; (try dsimp only at hSw); (have f1 := F1 w hSw; have f2 := hwr); go_simp; first | done | with_reducible rfl)); simp only [Act.put, List.setIfInBounds_toArray, List.set_cons_zero, List.set_cons_succ])
  (refine mv_val 6 (v := ?_) rfl (by kernel_rfl) (by kernel_rfl) (by kernel_rfl) (fun _ _ _ h => h) (by rfl) hS ?_ ?_; rotate_left; (focus (intro w hSw; (try dsimp only at hSw); (have f1 := F1 w hSw; have f2 := hwr); go_simp; first | done | with_reducible rfl)); simp only [Act.put, List.setIfInBounds_toArray, List.set_cons_zero, List.set_cons_succ])
  (refine mv_val 7 (v := ?_) rfl (by kernel_rfl) (by kernel_rfl) (by kernel_rfl) (fun _ _ _ h => h) (by rfl) hS ?_ ?_; rotate_left; (focus (intro w hSw; (try dsimp only at hSw); (have f1 := F1 w hSw; have f2 := hwr); go_simp; first | done | with_reducible rfl)); simp only [Act.put, List.setIfInBounds_toArray, List.set_cons_zero, List.set_cons_succ])
  (refine mv_call 5 (f := ?_) (args := ?_) rfl (by kernel_rfl) (by rfl) ?_ ?_; rotate_left 2; (focus (go_simp; first | done | with_reducible rfl | (refine ⟨?_, ?_⟩ <;> with_reducible rfl))))
  refine (Put_any _ A c b t.length (by omega) _ (rd_own (own_bel hown1 hS)) hlen).mono ?_; rintro e w2 ⟨A2, c2, rfl, hown2, hb2⟩
  have hS2 : Below w1.heap.size w1 w2 := hS.trans (hb2.mono hS.size)
  refine ⟨_, rfl, hS2, ?_⟩
  have hs1 := hS.size
  replace hS := hS2
  have hs2 := hS2.size
  simp only [Act.put, List.setIfInBounds_toArray, List.set_cons_zero, List.set_cons_succ]
  refine mv_step 8 rfl (by kernel_rfl) (by rfl) (fun K hK => ?_)
  refine wp_app_str _ _ rfl hown2 rfl rfl (by rw [List.length_append]; omega) hb2.size ?_; intro v3 w3 hown3 hg3; refine hK _ _ ?_ ?_ <;> clear hK K
  · exact hS.trans ((own_below (base := w1.heap.size) (own_lower hown2 hs1) hg3 (by omega)))
  have hS3 : Below w1.heap.size w1 w3 := hS.trans ((own_below (base := w1.heap.size) (own_lower hown2 hs1) hg3 (by omega)))
  replace hS := hS3
  try simp only [Act.put, List.setIfInBounds_toArray, List.set_cons_zero, List.set_cons_succ]
  (refine mv_val 9 (v := ?_) rfl (by kernel_rfl) (by kernel_rfl) (by kernel_rfl) (fun _ _ _ h => h) (by rfl) hS ?_ ?_; rotate_left; (focus (intro w hSw; (try dsimp only at hSw); (have f1 := F1 w hSw; have f2 := hwr); go_simp; first | done | with_reducible rfl)); simp only [Act.put, List.setIfInBounds_toArray, List.set_cons_zero, List.set_cons_succ])
  refine wpAnyH_done (by kernel_rfl) ?_ _
  go_wp2_with fail
  go_ret
  have hb : Below w.heap.size w w3 := hb1.trans (hS3.mono (by omega))
  refine ⟨v3, rfl, ?_, hb.mono hbase, fun k hk _ => hb.block k hk⟩
  rw [← List.append_assoc, cells_append, List.length_append]
  exact own_lower hown3 (by omega)
end
end Go.Proofs.Ythkpgjcnnfdibaa.Rw

/-! The walks of the three reading functions of the table row.ways (layer 4): each answers what vread says. No condition but sizes. -/
namespace Go.Proofs.Ythkpgjcnnfdibaa.Rw
open Go.RowKit Go.Maps
set_option linter.unusedVariables false
set_option linter.unusedSimpArgs false

/-- What a call that reads a value leaves. -/
def RetR (w : World) (x : V × Nat × Nat) (e : Ending) (w' : World) : Prop :=
  e = .returned (.tuple #[va x.1, .int .i64 (x.2.1 : Int), .int .i64 (x.2.2 : Int)]) ∧ Below w.heap.size w w'
theorem retR_of {w w' : World} {x : V × Nat × Nat} {v : V} {n k : Nat} {vv : Value} (hvv : vv = va v) (h : x = (v, n, k)) (hb : Below w.heap.size w w') : RetR w x (.returned (.tuple #[vv, .int .i64 (n : Int), .int .i64 (k : Int)])) w' := by
  subst h hvv
  exact ⟨rfl, hb⟩

/-- 'b[u:v]' of bytes that are read. -/
theorem mid_any {w : World} {B : Nat} {A : Option Addr} {l : List UInt8} (c u v : Nat) (huv : u ≤ v) (hv : v ≤ l.length) (hc : l.length ≤ c) (hr : Rd w B A (cells l)) :
    ∃ A' c', (∀ w' (y z : Int), y = u → z = v → (Instr.sliceAt 22 (.slice A l.length c) (some (.int .i64 y)) (some (.int .i64 z)) none).run Try.prog w' = .ok (.slice A' ((l.drop u).take (v - u)).length c') w') ∧ Rd w B A' (cells ((l.drop u).take (v - u))) ∧ ((l.drop u).take (v - u)).length ≤ c' := by
  obtain ⟨i0, hi, hz0, hz1, hz2⟩ := info_parts Try.infoU8
  have hlen : ((l.drop u).take (v - u)).length = v - u := by rw [List.length_take, List.length_drop]; omega
  refine ⟨if c = u then A else A.map (·.add u), c - u, fun w' y z hy hz => ?_, ?_, by rw [hlen]; omega⟩
  · subst hy hz
    rw [hlen]
    simp [Instr.sliceAt, Instr.slice, run_underlying Try.underlying22, Instr.sliceBounds, run_sliceBound, sizeOf, typeInfo, hi, hz1, (by omega : (0 : Int) ≤ (u : Int)), (by omega : (0 : Int) ≤ (v : Int)), (by omega : (u : Int) ≤ (v : Int)), (by omega : (v : Int) ≤ (c : Int)), (by omega : (u : Int) ≤ (c : Int))]
  · have h1 := (hr.cut u (c = u) (fun e => by simp; omega)).take (v - u)
    unfold cells at *
    rw [List.map_take, List.map_drop]; exact h1

section
variable (B : Nat) (A : Option Addr) (c : Nat) (b : List UInt8) (w : World) (hr : Rd w B A (cells b)) (hc : b.length ≤ c) (hB : B ≤ w.heap.size) (hlen : b.length ≤ 4294967296)
include hr hc hB hlen

set_option maxHeartbeats 1000000 in
set_option maxRecDepth 100000 in
theorem get1_any : Calls Try.prog 73 #[.slice A b.length c] w (RetR w (vread 1 b)) := by
  rcases b with _ | ⟨d, r⟩
  · have he : vread 1 [] = (null, 0, 20) := rfl
    have HE := Lib.hid he
    clear he
    go_enter Try.func73, Try.ntmps73
    go_wp2
    refine bodyPost_ret (v := .tuple #[nullA, .int .i64 0, .int .i64 20]) (by simp [results, Try.results73, go_sem]) rfl (retR_of rfl HE.out (by go_grown))
  · obtain ⟨bb, oo, hA, hbb, hcell⟩ := rd_head hr
    have hcal : ∀ o, (w.alloc o).cell? ⟨bb, oo, none⟩ = some (.int .u8 (d.toNat : Int)) := fun o => cell_al hcell (by show bb < _; omega) _
    obtain ⟨n, hnn⟩ : ∃ n, n = (d :: r).length := ⟨_, rfl⟩
    have hn : 1 ≤ n := by rw [hnn]; simp
    rw [← hnn]
    have hn0 : ((n : Int) == 0) = false := by simp; omega
    have hn1 : (0 : Int) < (n : Int) := by omega
    have hn2 : 0 < n := by omega
    subst hA
    have hd : d.toNat < 256 := d.toNat_lt
    have hR := Lib.hid hr
    clear hnn hr hlen hc hn
    by_cases h1 : 1 < d.toNat
    · have he : vread 1 (d :: r) = (null, 0, 21) := by simp [vread, h1]
      have HE := Lib.hid he
      have h1I : (1 : Int) < (d.toNat : Int) := by omega
      clear he
      go_enter Try.func73, Try.ntmps73
      go_wp2
      refine bodyPost_ret (v := .tuple #[nullA, .int .i64 0, .int .i64 21]) (by simp [results, Try.results73, go_sem]) rfl (retR_of rfl HE.out (by go_grown))
    · have he : vread 1 (d :: r) = (⟨1, d.toNat, []⟩, 1, 0) := by simp [vread, h1]
      have HE := Lib.hid he
      have h1I : (d.toNat : Int) ≤ 1 := by omega
      have hw : IntKind.i64.wrap (d.toNat : Int) = (d.toNat : Int) := by rw [IntKind.wrap_i64]; omega
      clear he
      go_enter Try.func73, Try.ntmps73
      go_wp2
      refine bodyPost_ret (v := .tuple #[va ⟨1, d.toNat, []⟩, .int .i64 1, .int .i64 0]) (by simp [results, Try.results73, go_sem]) rfl (retR_of rfl HE.out (by go_grown))

set_option maxHeartbeats 1000000 in
set_option maxRecDepth 100000 in
theorem get2_any : Calls Try.prog 76 #[.slice A b.length c] w (RetR w (vread 2 b)) := by
  have _ := hc
  have G0 := fun (w1 : World) (h : Below w.heap.size w w1) => Get_any B A c b w1 (hr.below (h.mono hB)) hlen
  have hv := vget_val b
  have hvr : vread 2 b = if (vget b).2.2 ≠ 0 then (null, 0, (vget b).2.2) else (⟨2, zag (vget b).1, []⟩, (vget b).2.1, 0) := by
    unfold vread; rw [if_neg (by decide)]
    split
    · rfl
    · rw [if_pos (by decide)]
  obtain ⟨x, hx⟩ : ∃ x, x = vget b := ⟨_, rfl⟩
  rw [← hx] at G0 hv hvr
  obtain ⟨u, n, e⟩ := x
  dsimp only at hv hvr
  have HG := Lib.hid G0
  have HV := Lib.hid hvr
  have Z0 := fun w => Zag_any (u : Int) (by omega) (by omega) w
  have HZ := Lib.hid Z0
  clear G0 hx Z0 hvr
  by_cases he : e = 0
  · subst he
    have HE : Hid (vread 2 b = (⟨2, zag u, []⟩, n, 0)) := Lib.hid (by rw [HV.out]; simp)
    clear HV
    go_enter Try.func76, Try.ntmps76
    go_wp2_with fail
    refine (HG.out _ ((Below.refl _ _).alloc (Nat.le_refl _) _)).mono ?_; rintro e w1 ⟨rfl, rfl⟩
    go_wp2_with fail
    refine (HZ.out _).mono ?_; rintro e w1 ⟨rfl, rfl⟩
    go_wp2_with fail
    refine bodyPost_ret (v := .tuple #[va ⟨2, zag u, []⟩, .int .i64 n, .int .i64 0]) (by simp [results, Try.results76, go_sem]) rfl (retR_of rfl HE.out (by go_grown))
  · have HE : Hid (vread 2 b = (null, 0, e)) := Lib.hid (by rw [HV.out, if_pos he])
    have heI : ((e : Int) != 0) = true := by simp; omega
    clear HV
    go_enter Try.func76, Try.ntmps76
    go_wp2_with fail
    refine (HG.out _ ((Below.refl _ _).alloc (Nat.le_refl _) _)).mono ?_; rintro e w1 ⟨rfl, rfl⟩
    go_wp2_with fail
    refine bodyPost_ret (v := .tuple #[nullA, .int .i64 0, .int .i64 e]) (by simp [results, Try.results76, go_sem]) rfl (retR_of rfl HE.out (by go_grown))

set_option maxHeartbeats 1000000 in
set_option maxRecDepth 100000 in
theorem get3_any : Calls Try.prog 80 #[.slice A b.length c] w (RetR w (vread 3 b)) := by
  have G0 := fun (w1 : World) (h : Below w.heap.size w w1) => Get_any B A c b w1 (hr.below (h.mono hB)) hlen
  have hv := vget_val b
  have hvr : vread 3 b = if (vget b).2.2 ≠ 0 then (null, 0, (vget b).2.2) else if b.length - (vget b).2.1 < (vget b).1 then (null, 0, 20) else (⟨3, 0, (b.drop (vget b).2.1).take (vget b).1⟩, (vget b).2.1 + (vget b).1, 0) := by
    unfold vread; rw [if_neg (by decide)]
    split
    · rfl
    · rw [if_neg (by decide)]
  obtain ⟨x, hx⟩ : ∃ x, x = vget b := ⟨_, rfl⟩
  rw [← hx] at G0 hv hvr
  obtain ⟨u, n, e⟩ := x
  dsimp only at hv hvr
  obtain ⟨hu, _, hn⟩ := hv
  have HG := Lib.hid G0
  have HV := Lib.hid hvr
  clear G0 hx hvr
  by_cases he : e = 0
  · subst he
    have hw1 : IntKind.u64.wrap ((b.length : Int) - (n : Int)) = ((b.length - n : Nat) : Int) := by rw [IntKind.wrap_u64]; omega
    by_cases hun : b.length - n < u
    · have HE : Hid (vread 3 b = (null, 0, 20)) := Lib.hid (by rw [HV.out]; simp [hun])
      have hunI : (b.length : Int) - (n : Int) < (u : Int) := by omega
      clear HV
      go_enter Try.func80, Try.ntmps80
      go_wp2_with fail
      refine (HG.out _ ((Below.refl _ _).alloc (Nat.le_refl _) _)).mono ?_; rintro e w1 ⟨rfl, rfl⟩
      go_wp2_with fail
      refine bodyPost_ret (v := .tuple #[nullA, .int .i64 0, .int .i64 20]) (by simp [results, Try.results80, go_sem]) rfl (retR_of rfl HE.out (by go_grown))
    · have HE : Hid (vread 3 b = (⟨3, 0, (b.drop n).take u⟩, n + u, 0)) := Lib.hid (by rw [HV.out]; simp [hun])
      have hunI : (u : Int) ≤ (b.length : Int) - (n : Int) := by omega
      have hwu : IntKind.i64.wrap (u : Int) = (u : Int) := by rw [IntKind.wrap_i64]; omega
      obtain ⟨A', c', hsl, hrd', hc'⟩ := mid_any c n (n + u) (by omega) (by omega) hc hr
      rw [show n + u - n = u by omega] at hsl hrd'
      have hsl2 := fun w' => hsl w' n ((n : Int) + (u : Int)) rfl (by omega)
      have CV : ∀ w', Below w.heap.size w w' → (convert 22 9 (.slice A' ((b.drop n).take u).length c')).run Try.prog w' = .ok (txt ((b.drop n).take u)) w' := fun w' h => conv_rd (hrd'.below (h.mono hB)) c'
      have cv1 := fun o => CV (w.alloc o) ((Below.refl _ _).alloc (Nat.le_refl _) _)
      clear HV hsl CV
      obtain ⟨s, hs⟩ : ∃ s, s = (b.drop n).take u := ⟨_, rfl⟩
      rw [← hs] at hsl2 HE cv1
      clear hs
      have hnu : ¬ 9223372036854775807 < n + u := by omega
      go_enter Try.func80, Try.ntmps80
      go_wp2_with fail
      refine (HG.out _ ((Below.refl _ _).alloc (Nat.le_refl _) _)).mono ?_; rintro e w1 ⟨rfl, rfl⟩
      go_wp2_with fail
      refine bodyPost_ret (v := .tuple #[va ⟨3, 0, s⟩, .int .i64 ((n + u : Nat) : Int), .int .i64 0]) (by simp [results, Try.results80, go_sem]) rfl (retR_of rfl HE.out (by go_grown))
  · have HE : Hid (vread 3 b = (null, 0, e)) := Lib.hid (by rw [HV.out, if_pos he])
    have heI : ((e : Int) != 0) = true := by simp; omega
    clear HV
    go_enter Try.func80, Try.ntmps80
    go_wp2_with fail
    refine (HG.out _ ((Below.refl _ _).alloc (Nat.le_refl _) _)).mono ?_; rintro e w1 ⟨rfl, rfl⟩
    go_wp2_with fail
    refine bodyPost_ret (v := .tuple #[nullA, .int .i64 0, .int .i64 e]) (by simp [results, Try.results80, go_sem]) rfl (retR_of rfl HE.out (by go_grown))
end
end Go.Proofs.Ythkpgjcnnfdibaa.Rw

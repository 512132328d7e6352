/- The walks of the reference's Which, Words and texts (layer 6). For marks that are Texts; no other condition but sizes. -/
import Derived.Test.YtiijnfakphhbeaaCol10
namespace Go.Proofs.Ytiijnfakphhbeaa
open Go.RowKit Go.Maps
set_option linter.unusedVariables false
set_option linter.unusedSimpArgs false

abbrev strs (ws : List (List UInt8)) : List Value := ws.map txt
theorem strs_one (ws : List (List UInt8)) : ∀ u ∈ strs ws, u.oneCell' = true := by
  intro u hu
  obtain ⟨t, _, rfl⟩ := List.mem_map.1 hu
  rfl
theorem idx_first {ws : List (List UInt8)} {k : Nat} {s : List UInt8} (h : ws[k]? = some s) (hn : ∀ t ∈ ws.take k, t ≠ s) : ws.idxOf s = k := by
  have hk : k < ws.length := (List.getElem?_eq_some_iff.1 h).1
  have e : ws = ws.take k ++ ws.drop k := (List.take_append_drop k ws).symm
  have hd : ws.drop k = s :: ws.drop (k + 1) := by
    rw [List.getElem?_eq_getElem hk] at h
    rw [← Option.some.inj h]; exact List.drop_eq_getElem_cons hk
  rw [e, List.idxOf_append, if_neg (fun h => hn s h rfl), hd, List.idxOf_cons_self, List.length_take]; omega
set_option maxHeartbeats 1000000 in
set_option maxRecDepth 100000 in
theorem rWhich_any (B : Nat) (A : Option Addr) (c : Nat) (ws : List (List UInt8)) (s : List UInt8) (w : World) (hr : Rd w B A (strs ws)) (hll : ws.length ≤ 4294967296) :
    Calls Try.prog 52 #[.slice A ws.length c, txt s] w fun e w' => e = .returned (.int .i64 (ws.idxOf s : Nat)) ∧ w = w' := by
  obtain ⟨n, hn⟩ : ∃ n, n = ws.length := ⟨_, rfl⟩
  have HN := Lib.hid hn
  rw [← hn] at hll ⊢
  clear hn
  go_enter Try.func52, Try.ntmps52
  go_wp2_with fail
  go_loop [5] (fun v5 => ∃ k : Nat, k ≤ n ∧ v5 = .int .i64 k ∧ ∀ t ∈ ws.take k, t ≠ s) (fun v5 => n - (intOf v5).toNat)
  case atStart => exact ⟨0, by omega, rfl, by simp⟩
  case round =>
    obtain ⟨k, hk, rfl, hno⟩ := hrel
    have HNO := Lib.hid hno
    clear hno
    by_cases hlt : k < n
    case neg =>
      have hkn : k = n := by omega
      have hE : ws.idxOf s = k := by
        have h := HNO.out
        rw [hkn, HN.out, List.take_length] at h
        rw [List.idxOf_eq_length (fun hm => h s hm rfl), hkn, HN.out]
      have HE := Lib.hid hE
      have hge : decide ((k : Int) < (n : Int)) = false := decide_eq_false (by omega)
      clear hkn hE
      go_wp2_with fail
      go_ret
      exact ⟨by rw [HE.out]; rfl, rfl⟩
    obtain ⟨t, ht⟩ : ∃ t, ws[k]? = some t := ⟨_, List.getElem?_eq_getElem (by rw [← HN.out]; exact hlt)⟩
    obtain ⟨gb, go, rfl, hgb, hcl⟩ := hr.at (k := k) (by rw [List.length_map, ← HN.out]; exact hlt)
    have hck := hcl k (txt t) (by rw [List.getElem?_map, ht]; rfl)
    have hkI : (k : Int) < (n : Int) := by omega
    have hlt2 : decide ((k : Int) < (n : Int)) = true := decide_eq_true hkI
    have HT := Lib.hid ht
    clear hcl ht
    by_cases hts : t = s
    · subst hts
      have hE : ws.idxOf t = k := idx_first HT.out HNO.out
      have HE := Lib.hid hE
      clear hE
      go_wp2_with fail
      go_ret
      exact ⟨by rw [HE.out]; rfl, rfl⟩
    · have hts2 : (t == s) = false := by simpa using hts
      go_wp2_with fail
      go_round
      case rel =>
        refine ⟨k + 1, by omega, by go_num, fun u hu => ?_⟩
        rw [List.take_add_one, HT.out] at hu
        rcases List.mem_append.1 hu with h | h
        · exact HNO.out u h
        · simp at h; rw [h]; exact hts
      case measure => simp [intOf]; omega

/-- words in memory -/
def RetS (w : World) (ws : List (List UInt8)) (e : Ending) (w' : World) : Prop := ∃ A c, e = .returned (.slice A ws.length c) ∧ w'.ownsRow w.heap.size 9 1 (.slice A ws.length c) ws.length (strs ws) ∧ Below w.heap.size w w'
theorem retS_of {w w' : World} {ws : List (List UInt8)} {v : Value} (ho : w'.ownsRow w.heap.size 9 1 v ws.length (strs ws)) (hb : Below w.heap.size w w') : RetS w ws (.returned v) w' := by
  obtain ⟨A, c, rfl, _⟩ := own_form ho
  exact ⟨A, c, rfl, ho, hb⟩
set_option maxHeartbeats 2000000 in
set_option maxRecDepth 100000 in
theorem rWords_any (B : Nat) (A : Option Addr) (c : Nat) (l : List V) (w : World) (hl : Rd w B A (vcells l)) (hB : B ≤ w.heap.size) (hll : l.length ≤ 65536) (hk3 : ∀ v ∈ l, v.k = 3) :
    Calls Try.prog 51 #[.slice A l.length c] w (RetS w (words l)) := by
  obtain ⟨n, hn⟩ : ∃ n, n = l.length := ⟨_, rfl⟩
  have HN := Lib.hid hn
  have HK := Lib.hid hk3
  rw [← hn] at hll ⊢
  clear hn hk3
  go_enter Try.func51, Try.ntmps51
  go_wp2_with fail
  go_loopw [3, 4] (fun v3 v4 wr => ∃ (k : Nat) (ws : List (List UInt8)), k ≤ n ∧ v4 = .int .i64 k ∧ ws = words (l.take k) ∧ wr.ownsRow w.heap.size 9 1 v3 ws.length (strs ws) ∧ Below w.heap.size w wr) (fun _ v4 _ => n - (intOf v4).toNat)
  case atStart => exact ⟨0, [], by omega, rfl, rfl, World.ownsRow_nil _ _ _ _, Below.refl _ _⟩
  case round =>
    obtain ⟨k, ws, hk, rfl, hws, hown, hbel⟩ := hrel
    have HWS := Lib.hid hws
    have hwl : ws.length ≤ k := by
      rw [hws]
      have := wordsF_len (l.take k) []
      rw [List.length_take] at this
      simp only [List.length_nil, Nat.zero_add] at this
      exact Nat.le_trans this (Nat.min_le_left _ _)
    clear hws
    by_cases hlt : k < n
    case neg =>
      have hkn : k = n := by omega
      have hE : ws = words l := by rw [HWS.out, hkn, HN.out, List.take_length]
      have hge : (n : Int) ≤ (k : Int) := by omega
      subst hE
      clear hkn
      go_wp2_with fail
      go_ret
      exact retS_of hown hbel
    obtain ⟨v, hv⟩ : ∃ v, l[k]? = some v := ⟨_, List.getElem?_eq_getElem (by rw [← HN.out]; exact hlt)⟩
    obtain ⟨gb, go, rfl, hgb, q0, q1, q2⟩ := rd_val hl hv
    have F0 : ∀ w', Below w.heap.size w w' → w'.cell? ⟨gb, go + k * 3, none⟩ = some (.int .u8 (v.k : Int)) ∧ w'.cell? ⟨gb, go + k * 3 + 2, none⟩ = some (txt v.t) := fun w' hb =>
      ⟨(hb.cell (p := ⟨gb, go + k * 3, none⟩) (by show gb < _; omega)).trans q0, (hb.cell (p := ⟨gb, go + k * 3 + 2, none⟩) (by show gb < _; omega)).trans q2⟩
    have hkI : (k : Int) < (n : Int) := by omega
    have hv3 : ((v.k : Int) == 3) = true := by have := HK.out v (List.mem_of_getElem? hv); simp; omega
    obtain ⟨f0, f2⟩ := F0 wr hbel
    obtain ⟨A3, c3, rfl, hc3⟩ := own_form hown
    have hsn := words_snoc hv
    rw [← HWS.out] at hsn
    have W0 := rWhich_any wr.heap.size A3 c3 ws v.t wr (rd_own hown) (by omega)
    have hm1 : v.t ∈ ws → words (l.take (k + 1)) = ws := fun h => by rw [hsn]; unfold addWord; rw [if_pos h]
    have hm2 : v.t ∉ ws → words (l.take (k + 1)) = ws ++ [v.t] := fun h => by rw [hsn]; unfold addWord; rw [if_neg h]
    have hi1 : v.t ∈ ws → ws.idxOf v.t < ws.length := List.idxOf_lt_length_iff.2
    have hi2 : v.t ∉ ws → ws.idxOf v.t = ws.length := List.idxOf_eq_length
    obtain ⟨q, hq⟩ : ∃ q, q = ws.idxOf v.t := ⟨_, rfl⟩
    rw [← hq] at W0 hi1 hi2
    have HW := Lib.hid W0
    have HM1 := Lib.hid hm1
    have HM2 := Lib.hid hm2
    have HI1 := Lib.hid hi1
    have HI2 := Lib.hid hi2
    clear q0 q1 q2 hv F0 hsn W0 hm1 hm2 hi1 hi2 hq
    by_cases hm : v.t ∈ ws
    · have h1 := HM1.out hm
      have h2 := HI1.out hm
      have hqI : ((q : Int) == (ws.length : Int)) = false := by simp; omega
      have HE := Lib.hid h1
      clear h1 h2 hm
      go_wp2_with fail
      refine HW.out.mono ?_; rintro e w4 ⟨rfl, rfl⟩
      go_wp2_with fail
      go_roundw
      case rel => exact ⟨k + 1, ws, by omega, by go_num, HE.out.symm, hown, hbel⟩
      case measure => simp [intOf]; omega
    · have h1 := HM2.out hm
      have h2 := HI2.out hm
      have hqI : ((q : Int) == (ws.length : Int)) = true := by simp; omega
      have HE := Lib.hid h1
      clear h1 h2 hm
      go_wp2_with fail
      refine HW.out.mono ?_; rintro e w4 ⟨rfl, rfl⟩
      go_wp2_with (at_builtin; refine wpList_app El_str rfl _ _ rfl (hown.alloc _) rfl rfl (by exact rd_one _ _ _ _ _ rfl (Nat.lt_add_one _)) rfl (by intro u hu; simp at hu; subst hu; rfl) (by unfold maxLen; omega) (by omega) (by have := hbel.size; simp; omega) ?_; intro v4 w4 hown4 hg4 _)
      have hb4 : Below w.heap.size w w4 := (hbel.alloc hbel.size _).trans (own_below (hown.alloc _) hg4 (by have := hbel.size; simp; omega))
      go_roundw
      case rel =>
        refine ⟨k + 1, ws ++ [v.t], by omega, by go_num, HE.out.symm, ?_, hb4⟩
        rw [List.length_append, List.length_singleton]
        unfold strs; rw [List.map_append]; exact hown4
      case measure => simp [intOf]; omega
def wOf (ws : List (List UInt8)) (k : Nat) : List UInt8 := vput ws.length ++ (ws.take k).flatMap wbytes
def mOf (ws : List (List UInt8)) (l : List V) (k : Nat) : List UInt8 := vput ws.length ++ (ws.flatMap wbytes ++ (l.take k).flatMap fun v => whichB ws v.t)
theorem wOf_snoc {ws : List (List UInt8)} {k : Nat} {t : List UInt8} (h : ws[k]? = some t) : wOf ws (k + 1) = wOf ws k ++ vput t.length ++ t := by
  unfold wOf
  rw [List.take_add_one, h, List.flatMap_append]
  simp [wbytes, List.append_assoc]
theorem mOf_snoc {ws : List (List UInt8)} {l : List V} {k : Nat} {v : V} (h : l[k]? = some v) : mOf ws l (k + 1) = mOf ws l k ++ vput (ws.idxOf v.t) := by
  unfold mOf
  rw [List.take_add_one, h, List.flatMap_append]
  simp [whichB, List.append_assoc]
theorem wOf_le (ws : List (List UInt8)) (k : Nat) (h : ws.length ≤ 65536) : (wOf ws k).length ≤ 10 + (ws.flatMap wbytes).length := by
  unfold wOf
  have h1 := vput_length64 (show ws.length < 18446744073709551616 by omega)
  have h2 := flat_pre (List.take_prefix k ws)
  rw [List.length_append]; omega
theorem mOf_le (ws : List (List UInt8)) (l : List V) (k : Nat) (h : ws.length ≤ 65536) (hk : k ≤ 65536) : (mOf ws l k).length ≤ 10 + (ws.flatMap wbytes).length + 655360 := by
  unfold mOf
  have h1 := vput_length64 (show ws.length < 18446744073709551616 by omega)
  have h2 : ∀ (m : List V), (m.flatMap fun v => whichB ws v.t).length ≤ m.length * 10 := by
    intro m
    induction m with
    | nil => simp
    | cons v m ih =>
      have h3 : ws.idxOf v.t ≤ ws.length := List.idxOf_le_length
      have h4 := vput_length64 (show ws.idxOf v.t < 18446744073709551616 by omega)
      rw [List.flatMap_cons, List.length_append, List.length_cons]
      have : (whichB ws v.t).length ≤ 10 := h4
      omega
  have h3 := h2 (l.take k)
  rw [List.length_take] at h3
  rw [List.length_append, List.length_append]
  omega
end Go.Proofs.Ytiijnfakphhbeaa

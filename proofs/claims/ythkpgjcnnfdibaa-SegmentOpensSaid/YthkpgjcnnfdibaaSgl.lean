/- Joined texts: see the remark ahead of each part. No condition but those that the parts name. -/
import Derived.Test.YthkpgjcnnfdibaaSgi
import Derived.Test.YthkpgjcnnfdibaaSgk
/-! The walk of SegmentOpens (layer 7). No condition. -/
namespace Go.Proofs.Ythkpgjcnnfdibaa
open Go.RowKit Go.Maps
set_option linter.unusedVariables false
set_option linter.unusedSimpArgs false

set_option maxHeartbeats 1000000 in
set_option maxRecDepth 100000 in
theorem segmentOpens_walk (A : Option Addr) (c : Nat) (T : List UInt8) (A' : Option Addr) (c' : Nat) (ps : List (List UInt8)) (W : World) (hT : Rd W W.heap.size A (cells T)) (hTc : T.length ≤ c ∧ c ≤ maxLen) (hr : RdBB W W.heap.size A' ps) (hrc : ps.length ≤ c' ∧ c' ≤ maxLen) (hv : ∀ p ∈ ps, p.length ≤ maxLen) :
    Calls Try.prog 4 #[.slice A T.length c, .slice A' ps.length c'] W fun e w' => e = .returned (.bool true) ∧ Below W.heap.size W w' := by
  have KL := heavy_any W.heap.size A A' c c' T ps W hr (Nat.le_refl _) (by omega) (by omega)
  by_cases hlg : hvy7 T ps = true
  case pos =>
    rw [hlg] at KL
    have HL := Lib.hid KL
    clear KL hlg
    go_enter Try.func4, Try.ntmps4
    go_wp2_with fail
    refine HL.out.mono ?_; rintro e w1 ⟨rfl, hq⟩
    subst hq
    go_wp2_with fail
    go_ret
    exact ⟨rfl, Below.refl _ _⟩
  have hlf : hvy7 T ps = false := by simpa using hlg
  rw [hlf] at KL
  obtain ⟨hTl, hPl, hFl, hFn⟩ := few_size hlf
  have HL := Lib.hid KL
  have KO := Lib.hid (ownPieces_any W.heap.size A' c' ps W hr (Nat.le_refl _) (by omega) (fun p hp => by have := (hvy7_no hlf).2.2 p hp; omega))
  have KR := Lib.hid (fun (w' : World) (h : Below W.heap.size W w') => ropen7_any W.heap.size A A' c c' T ps w' (hT.below h) (hr.below h) h.size (by omega) (by omega) (by omega))
  have KM := Lib.hid (fun (w' : World) (A3 A4 : Option Addr) (c3 c4 : Nat) (h1 : Rd w' w'.heap.size A3 (cells T)) (h2 : RdBB w' w'.heap.size A4 ps) => sgopen_any A3 A4 c3 c4 T ps w' h1 h2 (by omega) (by omega) (by omega) hFn)
  have KB := Lib.hid (fun (w' : World) (h : Below W.heap.size W w') => sgbounds_any A A' c c' T ps w' ((hT.below h).more h.size) ((hr.below h).more h.size) (by omega) (by omega) (by omega) hFn)
  have KP := Lib.hid (fun (w' : World) (A3 : Option Addr) (c3 : Nat) (h : Below W.heap.size W w') (h2 : RdBB w' w'.heap.size A3 ps) => rpieces_self w'.heap.size A3 A' c3 c' ps w' h2 ((hr.below h).more h.size) (Nat.le_refl _) (by omega))
  have HTR := Lib.hid (fun (w' : World) (h : Below W.heap.size W w') => hT.below h)
  have hor := segErr_or T ps (by omega)
  have hinv := fun h => sopen_inv (T := T) (ps := ps) (by omega) h
  have hTlen : T.length ≤ 12 := hTl
  obtain ⟨s, hs⟩ : ∃ s, s = sopen T ps := ⟨_, rfl⟩
  rw [← hs] at KR KM KB hor hinv
  have start : ∀ (rows : List (List V)) (er : Nat), rowsE s = (rows, er) → rows.length ≤ 1000000 → (∀ r ∈ rows, r.length ≤ maxLen) →
      (∀ (w' : World) (A6 A8 A10 A11 : Option Addr) (c6 c8 c10 c11 : Nat), True) → True := fun _ _ _ _ _ _ => trivial
  clear start KL hlg hlf hT hr hTc hrc hv hTl hFn
  by_cases he : s.e = 0
  case neg =>
    have hse : s = segErr s.e := by
      rcases hor with h | h
      · exact absurd h he
      · exact h
    obtain ⟨x, hx⟩ : ∃ x, x = s.e := ⟨_, rfl⟩
    rw [← hx] at hse he
    subst hse
    dsimp only [rowsE, segErr, rowsOf, List.range_zero, List.map_nil] at KR KM
    have hxI : ((x : Int) != 0) = true := by simp; omega
    clear hor hinv hx hs
    go_enter Try.func4, Try.ntmps4
    go_wp2_with fail
    refine HL.out.mono ?_; rintro e w1 ⟨rfl, hq⟩
    subst hq
    go_wp2_with fail
    refine KO.out.mono ?_; rintro e w1 ⟨A2, c2, rfl, own2, hb1⟩
    have HO1 := Lib.hid own2
    have t1 := HTR.out w1 hb1
    have hz1 := hb1.size
    have t1a : Rd (w1.alloc (.cells #[] 5)) (w1.heap.size + 1) A (cells T) := (t1.alloc hz1 _).more (by omega)
    clear own2 t1 KO
    go_wp2_with (at_builtin; refine wpList_app El_u8 rfl _ _ rfl (lit0B w1) rfl rfl t1a (by simp : (cells T).length = T.length * 1) (cells_one _) (by unfold maxLen; omega) (by omega) (by simp) ?_; intro v3 w3 hown3 hg3 _; rw [Nat.zero_add, List.nil_append] at hown3; obtain ⟨A3, c3, rfl, _⟩ := own_form hown3; have hb13 : Below w1.heap.size w1 w3 := ((Below.refl _ w1).alloc (Nat.le_refl _) _).trans (own_below (lit0B w1) hg3 (by simp)))
    have hb3 := hb1.trans (hb13.mono hz1)
    have HO3 := Lib.hid (HO1.out.below hb13)
    have K1 := Lib.hid (KM.out w3 A3 A2 c3 c2 (rd_own hown3) HO3.out.rd)
    clear hown3 hg3 hb13 HO1 KM
    refine K1.out.mono ?_; rintro e w4 ⟨A4, c4, rfl, own4, hb4⟩
    have hb04 := hb3.trans (hb4.mono hb3.size)
    have HO4 := Lib.hid (HO3.out.below hb4)
    have K2 := Lib.hid (KR.out w4 hb04)
    dsimp only
    clear own4 hb4 HO3 K1 KR
    go_wp2_with fail
    refine K2.out.mono ?_; rintro e w5 ⟨A5, c5, rfl, own5, hb5⟩
    have hb05 := hb04.trans (hb5.mono hb04.size)
    have HO5 := Lib.hid (HO4.out.below hb5)
    have K3 := Lib.hid (rsame_self w5.heap.size A4 A5 c4 c5 [] w5 (RdN.nil _ _ _) (RdN.nil _ _ _) (Nat.le_refl _) (by simp) (by simp))
    dsimp only
    clear own5 hb5 HO4 K2
    go_wp2_with fail
    refine K3.out.mono ?_; rintro e w6 ⟨rfl, hb6⟩
    have hb06 := hb05.trans (hb6.mono hb05.size)
    have K4 := Lib.hid (KP.out w6 A2 c2 hb06 (HO5.out.below hb6).rd)
    clear hb6 HO5 K3 KP
    go_wp2_with fail
    refine K4.out.mono ?_; rintro e w7 ⟨rfl, hb7⟩
    have hb07 := hb06.trans (hb7.mono hb06.size)
    have K5 := Lib.hid (KB.out w7 hb07)
    clear K4 KB
    go_wp2_with fail
    refine K5.out.mono ?_; rintro e w8 ⟨A6, c6, A7, c7, rfl, _, _, hb8⟩
    have hb08 := hb07.trans (hb8.mono hb07.size)
    dsimp only [segErr]
    clear K5
    go_wp2_with fail
    refine (makes_any w8).mono ?_; rintro e w9 ⟨rfl, hb9⟩
    have hb09 := hb08.trans (hb9.mono hb08.size)
    go_wp2_with fail
    go_ret
    exact ⟨rfl, hb09⟩
  obtain ⟨hk, cs, n, hn6, hc, hpc, hse⟩ := hinv he
  clear hpc hor hinv
  subst hse
  obtain ⟨hro, hrl, _⟩ := hc.rows
  have hcl := hc.1
  have hcr := colsOf_rows hcl (fun l hl => (hc.mem hl).1)
  have hgd := fun l (hl : l ∈ cs) => hc.good hl
  have hln := rowsOf_length n cs
  have hmm := fun l (hl : l ∈ cs) => (hc.mem hl).1
  have ll := least_length cs
  have lg := greatest_length cs
  have hm12 : (12 : Nat) ≤ maxLen := by unfold maxLen; omega
  dsimp only [rowsE] at KR KM
  obtain ⟨rows, hrows⟩ : ∃ r, r = rowsOf n cs := ⟨_, rfl⟩
  rw [← hrows] at KR KM hro hrl hcr hln
  have KC := Lib.hid (fun (w' : World) (A3 : Option Addr) (c3 : Nat) (h : RdVV w' w'.heap.size A3 rows) => rcolumns_any w'.heap.size A A3 T.length c c3 rows w' h (Nat.le_refl _) (by omega) (by omega) hrl)
  have KN := Lib.hid (fun (w' : World) (A3 : Option Addr) (c3 : Nat) (h : RdVV w' w'.heap.size A3 cs) => rbounds7_any w'.heap.size A3 c3 cs w' h (Nat.le_refl _) (by omega) (fun l hl => ⟨by have := hmm l hl; omega, hgd l hl⟩))
  have KS := Lib.hid (fun (w' : World) (A3 A4 : Option Addr) (c3 c4 : Nat) (h1 : RdVV w' w'.heap.size A3 rows) (h2 : RdVV w' w'.heap.size A4 rows) => rsame_self w'.heap.size A3 A4 c3 c4 rows w' h1 h2 (Nat.le_refl _) (by omega) (fun r hr => by have := hrl r hr; omega))
  rw [hcr] at KC
  have KV := Lib.hid (fun (l : List V) (hl : l.length ≤ maxLen) (w' : World) (A3 A4 : Option Addr) (c3 c4 : Nat) (h1 : Rd w' w'.heap.size A3 (vcells l)) (h2 : Rd w' w'.heap.size A4 (vcells l)) => same_self w'.heap.size A3 A4 c3 c4 l w' h1 h2 (Nat.le_refl _) hl)
  obtain ⟨lo, hlo⟩ : ∃ l, l = least cs := ⟨_, rfl⟩
  obtain ⟨hi, hhi⟩ : ∃ l, l = greatest cs := ⟨_, rfl⟩
  have hlol : lo.length ≤ maxLen ∧ hi.length ≤ maxLen := by rw [hlo, hhi]; omega
  rw [← hlo, ← hhi] at KB KN
  clear hk hc hro hrl hcl hcr hgd hmm ll lg hlo hhi hrows hs he
  go_enter Try.func4, Try.ntmps4
  go_wp2_with fail
  refine HL.out.mono ?_; rintro e w1 ⟨rfl, hq⟩
  subst hq
  go_wp2_with fail
  refine KO.out.mono ?_; rintro e w1 ⟨A2, c2, rfl, own2, hb1⟩
  have HO1 := Lib.hid own2
  have t1 := HTR.out w1 hb1
  have hz1 := hb1.size
  have t1a : Rd (w1.alloc (.cells #[] 5)) (w1.heap.size + 1) A (cells T) := (t1.alloc hz1 _).more (by omega)
  have HLN := Lib.hid hln
  clear own2 t1 KO hln
  go_wp2_with (at_builtin; refine wpList_app El_u8 rfl _ _ rfl (lit0B w1) rfl rfl t1a (by simp : (cells T).length = T.length * 1) (cells_one _) (by unfold maxLen; omega) (by omega) (by simp) ?_; intro v3 w3 hown3 hg3 _; rw [Nat.zero_add, List.nil_append] at hown3; obtain ⟨A3, c3, rfl, _⟩ := own_form hown3; have hb13 : Below w1.heap.size w1 w3 := ((Below.refl _ w1).alloc (Nat.le_refl _) _).trans (own_below (lit0B w1) hg3 (by simp)))
  have hb3 := hb1.trans (hb13.mono hz1)
  have HO3 := Lib.hid (HO1.out.below hb13)
  have K1 := Lib.hid (KM.out w3 A3 A2 c3 c2 (rd_own hown3) HO3.out.rd)
  clear hown3 hg3 hb13 HO1 KM
  refine K1.out.mono ?_; rintro e w4 ⟨A4, c4, rfl, own4, hb4⟩
  have hb04 := hb3.trans (hb4.mono hb3.size)
  have HO4 := Lib.hid (HO3.out.below hb4)
  have HX4 := Lib.hid own4
  have K2 := Lib.hid (KR.out w4 hb04)
  dsimp only
  clear own4 hb4 HO3 K1 KR
  go_wp2_with fail
  refine K2.out.mono ?_; rintro e w5 ⟨A5, c5, rfl, own5, hb5⟩
  have hb05 := hb04.trans (hb5.mono hb04.size)
  have HO5 := Lib.hid (HO4.out.below hb5)
  have HY5 := Lib.hid own5
  have K3 := Lib.hid (KS.out w5 A4 A5 c4 c5 (HX4.out.below hb5).rd own5.rd)
  dsimp only
  clear own5 hb5 HO4 K2 HX4 KS
  go_wp2_with fail
  refine K3.out.mono ?_; rintro e w6 ⟨rfl, hb6⟩
  have hb06 := hb05.trans (hb6.mono hb05.size)
  have HY6 := Lib.hid (HY5.out.below hb6)
  have K4 := Lib.hid (KP.out w6 A2 c2 hb06 (HO5.out.below hb6).rd)
  clear hb6 HO5 K3 KP HY5
  go_wp2_with fail
  refine K4.out.mono ?_; rintro e w7 ⟨rfl, hb7⟩
  have hb07 := hb06.trans (hb7.mono hb06.size)
  have HY7 := Lib.hid (HY6.out.below hb7)
  have K5 := Lib.hid (KB.out w7 hb07)
  clear K4 KB HY6 hb7
  go_wp2_with fail
  refine K5.out.mono ?_; rintro e w8 ⟨A6, c6, A7, c7, rfl, rlo, rhi, hb8⟩
  have hb08 := hb07.trans (hb8.mono hb07.size)
  have HY8 := Lib.hid (HY7.out.below hb8)
  have K6 := Lib.hid (KC.out w8 A5 c5 HY8.out.rd)
  have RLO := Lib.hid rlo
  have RHI := Lib.hid rhi
  dsimp only at RLO RHI ⊢
  clear K5 rlo rhi hb8 HY7 KC HLN
  go_wp2_with fail
  refine K6.out.mono ?_; rintro e w9 ⟨A9, c9, rfl, own9, hb9⟩
  have hb09 := hb08.trans (hb9.mono hb08.size)
  have K7 := Lib.hid (KN.out w9 A9 c9 own9.rd)
  have RLO9 := Lib.hid (RLO.out.next hb9)
  have RHI9 := Lib.hid (RHI.out.next hb9)
  clear K6 own9 hb9 HY8 KN RLO RHI
  go_wp2_with fail
  refine K7.out.mono ?_; rintro e w10 ⟨A10, c10, A11, c11, rfl, r10, r11, hb10⟩
  have hb010 := hb09.trans (hb10.mono hb09.size)
  have K8 := Lib.hid (KV.out lo hlol.1 w10 A6 A10 c6 c10 (RLO9.out.next hb10) r10)
  have R11 := Lib.hid r11
  have RHI10 := Lib.hid (RHI9.out.next hb10)
  clear K7 r10 r11 hb10 RLO9 RHI9
  go_wp2_with fail
  refine K8.out.mono ?_; rintro e w11 ⟨rfl, hb11⟩
  have hb011 := hb010.trans (hb11.mono hb010.size)
  have K9 := Lib.hid (KV.out hi hlol.2 w11 A7 A11 c7 c11 (RHI10.out.next hb11) (R11.out.next hb11))
  clear K8 KV hb11
  go_wp2_with fail
  refine K9.out.mono ?_; rintro e w12 ⟨rfl, hb12⟩
  have hb012 := hb011.trans (hb12.mono hb011.size)
  go_wp2_with fail
  refine (makes_any w12).mono ?_; rintro e w13 ⟨rfl, hb13⟩
  have hb013 := hb012.trans (hb13.mono hb012.size)
  go_wp2_with fail
  go_ret
  exact ⟨rfl, hb013⟩
end Go.Proofs.Ythkpgjcnnfdibaa

/- Joined texts: see the remark ahead of each part. No condition but those that the parts name. -/
import Derived.Test.YthkpgjcnnfdibaaSgj
import Derived.Test.YthkpgjcnnfdibaaSgg
import Derived.Test.YthkpgjcnnfdibaaRwd
import Derived.Test.YthkpgjcnnfdibaaCRc
/-! The walk of the reference's Open (layer 7): the rows that pieces say, or the error. No condition but sizes. Printed by gen_sgo2.py. -/
namespace Go.Proofs.Ythkpgjcnnfdibaa
open Go.RowKit Go.Maps
set_option linter.unusedVariables false
set_option linter.unusedSimpArgs false

theorem cgot_good {t : UInt8} {p : List UInt8} {n : Int} (hp : p.length ≤ 1000000) (h : (cget t p n).2 = 0) : ((cget t p n).1.length : Int) = n ∧ (∀ v ∈ (cget t p n).1, vsm v) ∧ ∀ v ∈ (cget t p n).1, good v := by
  obtain ⟨_, _, _, g1, g2, _, g4⟩ := cget_inv (t := t) (b := p) (n := n) (m := (cget t p n).1) (Prod.ext rfl h)
  refine ⟨g1, fun v hv => ⟨(g4 v hv).1, (g4 v hv).2.1, by have := (g4 v hv).2.2; omega⟩, fun v hv => ?_⟩
  have := (colok_parts g2).2.2 v hv
  unfold rmay at this
  rw [Bool.and_eq_true] at this
  exact ⟨this.1, (g4 v hv).2.1⟩
theorem rowsE_of {T : List UInt8} {ps : List (List UInt8)} {e : Nat} (h : sopen T ps = segErr e) : rowsE (sopen T ps) = ([], e) := by rw [h]; rfl
set_option maxHeartbeats 8000000 in
set_option maxRecDepth 100000 in
theorem ropen7_any (B : Nat) (A A' : Option Addr) (c c' : Nat) (T : List UInt8) (ps : List (List UInt8)) (w : World) (hT : Rd w B A (cells T)) (hr : RdBB w B A' ps) (hB : B ≤ w.heap.size) (hTl : T.length ≤ 1000) (hl : ps.length ≤ 1000000) (hL : ps.flatten.length ≤ 1000000) :
    Calls Try.prog 19 #[.slice A T.length c, .slice A' ps.length c'] w (RetVVE w (rowsE (sopen T ps))) := by
  have HRT := Lib.hid (fun (w' : World) (h : Below w.heap.size w w') => (hT.below (h.mono hB)).more (B' := w'.heap.size) (by have := h.size; omega))
  have KT := Lib.hid (Rw.Types_any B A c T w hT (by unfold maxLen; omega))
  have HLL := Lib.hid hL
  obtain ⟨by_, HEL, hby⟩ := El_val
  by_cases hk : knownT T = true
  case neg =>
    have hk0 : knownT T = false := by simpa using hk
    have HR := Lib.hid (rowsE_of (show sopen T ps = segErr 1 by unfold sopen; rw [if_pos hk0]))
    rw [hk0] at KT
    clear hk hk0 hT hr hL
    go_enter Try.func19, Try.ntmps19
    go_wp2_with fail
    refine KT.out.mono ?_; rintro e w1 ⟨rfl, hq⟩
    subst hq
    go_wp2_with fail
    go_ret2
    exact retVVE_err HR.out (Below.refl _ _)
  rw [hk] at KT
  have HK := Lib.hid hk
  clear hk hT hL
  go_enter Try.func19, Try.ntmps19
  go_wp2_with fail
  refine KT.out.mono ?_; rintro e w1 ⟨rfl, hq⟩
  subst hq
  clear KT
  go_wp2_with fail
  go_loopw [6, 7] (fun v6 v7 wr => ∃ k : Nat, k ≤ ps.length ∧ v7 = .int .i64 k ∧ wr.ownsRow w.heap.size 5 1 v6 ((ps.take k).flatten).length (cells ((ps.take k).flatten)) ∧ (∀ i, i < k → pcOk ps.length i (ps[i]?.getD []) = true) ∧ Below w.heap.size w wr) (fun _ v7 _ => ps.length - (intOf v7).toNat)
  case atStart => exact ⟨0, by omega, rfl, World.ownsRow_nil _ _ _ _, by intro i hi; omega, Below.refl _ _⟩
  case round =>
    obtain ⟨k, hkl, rfl, hown, hall, hbel⟩ := hrel
    obtain ⟨A6, c6, rfl, hc6⟩ := own_form hown
    have HALL := Lib.hid hall
    have hbs := hbel.size
    clear hall
    by_cases hlt : k < ps.length
    case pos =>
      obtain ⟨p, hp⟩ : ∃ p, ps[k]? = some p := ⟨_, List.getElem?_eq_getElem hlt⟩
      obtain ⟨ga, oa, a1, ca, hgA, hga, q0, hca, hra⟩ := rdN_at hr hp
      subst hgA
      have q1 := (hbel.cell (p := ⟨ga, oa + k, none⟩) (by show ga < _; omega)).trans q0
      have hkI : (k : Int) < (ps.length : Int) := by omega
      have HPK := Lib.hid (show pcOk ps.length k (ps[k]?.getD []) = pcOk ps.length k p by rw [hp]; rfl)
      have HPM := Lib.hid (show pcOk ps.length k p = false → pcsOk ps = false from fun h => by
        unfold pcsOk
        rw [List.all_eq_false]
        exact ⟨k, List.mem_range.2 hlt, by rw [hp, Option.getD_some, h]; simp⟩)
      have HFL := Lib.hid (show (ps.take (k + 1)).flatten = (ps.take k).flatten ++ p by rw [List.take_add_one, hp]; simp)
      have hpl : p.length ≤ 1000000 := by
        have h1 := HLL.out
        have h2 : p.length ≤ ps.flatten.length := by
          obtain ⟨i, hi⟩ := List.getElem?_eq_some_iff.1 hp
          rw [← hi]
          exact (List.sublist_flatten_of_mem (List.getElem_mem i)).length_le
        omega
      have hfl : ((ps.take k).flatten).length ≤ 1000000 := by
        have h1 := HLL.out
        have h2 : ps.flatten.length = ((ps.take k).flatten).length + ((ps.drop k).flatten).length := by rw [← List.length_append, ← List.flatten_append, List.take_append_drop]
        omega
      have HRA := Lib.hid (show Rd wr wr.heap.size a1 (cells p) from (hra.below (hbel.mono hB)).more (by omega))
      obtain ⟨X, hX⟩ : ∃ X, X = (ps.take k).flatten := ⟨_, rfl⟩
      rw [← hX] at hown hfl HFL hc6 ⊢
      clear hp hra hca q0 hX
      have fin : ∀ (x : World), x = wr → pcOk ps.length k p = false → RetVVE w (rowsE (sopen T ps)) (.returned (.tuple #[.slice none 0 0, .int .i64 ((21 : Nat) : Int)])) x := fun x hx hn => by
        subst hx
        exact retVVE_err (rowsE_of (show sopen T ps = segErr 21 by unfold sopen; rw [if_neg (by rw [HK.out]; simp), if_pos (HPM.out hn)])) hbel
      have FIN := Lib.hid fin
      clear fin
      by_cases h1 : k + 1 < ps.length
      case pos =>
        have h1I : (k : Int) + 1 < (ps.length : Int) := by omega
        by_cases h2 : p.length = 1000
        case pos =>
          have e2 : ((p.length : Int) != 1000) = false := by simp; omega
          have e3 : ((p.length : Int) == 0) = false := by simp; intro h; rw [h] at h2; simp at h2
          have e4 : ¬ (1000 : Int) < (p.length : Int) := by omega
          have HOK := Lib.hid (show pcOk ps.length k p = true by unfold pcOk; rw [h2]; simp)
          clear h2 FIN
          go_wp2_with (at_builtin; refine wpList_app El_u8 rfl _ _ rfl hown rfl rfl HRA.out (by simp : (cells p).length = p.length * 1) (cells_one p) (by unfold maxLen; omega) (by omega) hbs ?_; intro v8 w8 hown8 hg8 _)
          have hb8 := hbel.trans (own_below hown hg8 hbs)
          rw [← List.length_append, ← cells_append, ← HFL.out] at hown8
          go_roundw
          case rel =>
            refine ⟨k + 1, by omega, by go_num, hown8, fun i hi => ?_, hb8⟩
            rcases Nat.lt_or_ge i k with h | h
            · exact HALL.out i h
            · rw [show i = k by omega, HPK.out, HOK.out]
          case measure => simp [intOf]; omega
        case neg =>
          have e2 : ((p.length : Int) != 1000) = true := by simp; omega
          have HNO := Lib.hid (show pcOk ps.length k p = false by unfold pcOk; simp; omega)
          clear h2 hown
          go_wp2_with fail
          go_ret2
          exact FIN.out _ rfl HNO.out
      have h1I : ¬ (k : Int) + 1 < (ps.length : Int) := by omega
      by_cases h3 : p.length < 1
      case pos =>
        have e3 : ((p.length : Int) == 0) = true := by simp; exact List.length_eq_zero_iff.1 (by omega)
        have HNO := Lib.hid (show pcOk ps.length k p = false by
          unfold pcOk
          rw [decide_eq_true h3]
          simp)
        clear h3 hown
        go_wp2_with fail
        go_ret2
        exact FIN.out _ rfl HNO.out
      have e3 : ((p.length : Int) == 0) = false := by simp; intro h; rw [h] at h3; simp at h3
      by_cases h4 : 1000 < p.length
      case pos =>
        have e4 : (1000 : Int) < (p.length : Int) := by omega
        have HNO := Lib.hid (show pcOk ps.length k p = false by
          unfold pcOk
          rw [decide_eq_true h4]
          simp)
        clear h4 hown
        go_wp2_with fail
        go_ret2
        exact FIN.out _ rfl HNO.out
      have e4 : ¬ (1000 : Int) < (p.length : Int) := by omega
      have HOK := Lib.hid (show pcOk ps.length k p = true by
        unfold pcOk
        rw [decide_eq_false h3, decide_eq_false h4, decide_eq_false h1]
        simp)
      clear h3 h4 FIN
      go_wp2_with (at_builtin; refine wpList_app El_u8 rfl _ _ rfl hown rfl rfl HRA.out (by simp : (cells p).length = p.length * 1) (cells_one p) (by unfold maxLen; omega) (by omega) hbs ?_; intro v8 w8 hown8 hg8 _)
      have hb8 := hbel.trans (own_below hown hg8 hbs)
      rw [← List.length_append, ← cells_append, ← HFL.out] at hown8
      go_roundw
      case rel =>
        refine ⟨k + 1, by omega, by go_num, hown8, fun i hi => ?_, hb8⟩
        rcases Nat.lt_or_ge i k with h | h
        · exact HALL.out i h
        · rw [show i = k by omega, HPK.out, HOK.out]
      case measure => simp [intOf]; omega
    have hkk : k = ps.length := by omega
    have hge : (ps.length : Int) ≤ (k : Int) := by omega
    have HPC := Lib.hid (show pcsOk ps = true from by
      unfold pcsOk
      rw [List.all_eq_true]
      intro i hi
      exact HALL.out i (by rw [hkk]; exact List.mem_range.1 hi))
    rw [hkk, List.take_length] at hown hc6 ⊢
    by_cases h0 : ps.length = 0
    case pos =>
      have HR := Lib.hid (rowsE_of (show sopen T ps = segErr 21 by unfold sopen; rw [if_neg (by rw [HK.out]; simp), if_neg (by rw [HPC.out]; simp), if_pos h0]))
      have hps : ps = [] := List.eq_nil_of_length_eq_zero h0
      have e0 : ps.flatten.length = 0 := by rw [hps]; rfl
      clear hkk h0 hps hown HALL
      go_wp2_with fail
      go_ret2
      exact retVVE_err HR.out hbel
    have HS := Lib.hid (show sopen T ps = sread T ps.flatten by unfold sopen; rw [if_neg (by rw [HK.out]; simp), if_neg (by rw [HPC.out]; simp), if_neg h0])
    have hpos : 0 < ps.flatten.length := by
      obtain ⟨p, hp⟩ : ∃ p, ps[0]? = some p := ⟨_, List.getElem?_eq_getElem (by omega)⟩
      have h1 := (pcsOk_iff.1 HPC.out 0 p hp).2.1
      have h2 : p.length ≤ ps.flatten.length := by
        obtain ⟨i, hi⟩ := List.getElem?_eq_some_iff.1 hp
        rw [← hi]
        exact (List.sublist_flatten_of_mem (List.getElem_mem i)).length_le
      omega
    obtain ⟨b, hb⟩ : ∃ b, b = ps.flatten := ⟨_, rfl⟩
    rw [← hb] at HS HLL hown hpos hc6 ⊢
    have e0 : ((b.length : Int) == 0) = false := by simp; intro h; rw [h] at hpos; simp at hpos
    have hbl : b.length ≤ 1000000 := HLL.out
    obtain ⟨wb, hwb⟩ : ∃ w2, w2 = wr := ⟨_, rfl⟩
    subst hwb
    have hb0 := hbel
    have RB := Lib.hid (rd_own hown)
    have G := Lib.hid (rGet_any wb.heap.size A6 c6 b wb RB.out (by omega))
    clear hb h0 hkk HPC HALL hown hbel hpos hr
    go_wp2_with fail
    refine G.out.mono ?_; rintro e w1 ⟨rfl, hq⟩
    subst hq
    by_cases he : (vget b).2.2 = 0
    case neg =>
      have HR := Lib.hid (rowsE_of (show sopen T ps = segErr (vget b).2.2 by rw [HS.out]; unfold sread; rw [if_pos he]))
      obtain ⟨x, hx⟩ : ∃ x, x = (vget b).2.2 := ⟨_, rfl⟩
      unfold tri
      rw [← hx] at he HR ⊢
      have hxI : ((x : Int) != 0) = true := by simp; omega
      clear hx he G
      go_wp2_with fail
      go_ret2
      exact retVVE_err HR.out hb0
    have hkl2 := (vget_val b)
    obtain ⟨⟨n, kk, ev⟩, hv⟩ : ∃ r, r = vget b := ⟨_, rfl⟩
    unfold tri
    rw [← hv] at he hkl2 ⊢
    dsimp only at he hkl2 ⊢
    subst he
    try rw [show ((0 : Nat) : Int) = 0 from rfl]
    by_cases hbig : 65536 < n
    case pos =>
      have HR := Lib.hid (rowsE_of (show sopen T ps = segErr 21 by rw [HS.out]; unfold sread; rw [← hv]; rw [if_neg (by simp), if_pos hbig]))
      have hI : (65536 : Int) < (n : Int) := by omega
      clear hv hbig G
      go_wp2_with fail
      go_ret2
      exact retVVE_err HR.out hb0
    have hI : ¬ (65536 : Int) < (n : Int) := by omega
    have hn6 : n ≤ 65536 := by omega
    obtain ⟨A7, c7, e7, r7, l7⟩ := from_any c6 kk hkl2.2.2 hc6 RB.out
    have f7 := fun w' => e7 w' (kk : Int) rfl
    have hrl : (b.drop kk).length ≤ b.length := by rw [List.length_drop]; omega
    have HS1 := Lib.hid (show sopen T ps = sread1 T n (rpart (b.drop kk)) by rw [HS.out]; unfold sread; rw [← hv]; rw [if_neg (by simp), if_neg hbig])
    obtain ⟨r, hr2⟩ : ∃ r, r = b.drop kk := ⟨_, rfl⟩
    rw [← hr2] at f7 r7 l7 hrl HS1
    have KK := Lib.hid (rtake_any wb.heap.size A7 c7 r wb r7 l7 (by omega))
    clear hv hbig hr2 e7 r7 hkl2 G HS RB
    go_wp2_with fail
    refine KK.out.mono ?_; rintro e w1 ⟨A8, c8, A9, c9, rfl, ra, la, rb, lb, hb1⟩
    have hb01 := hb0.trans (hb1.mono hb0.size)
    have hle := rpart_le r
    obtain ⟨⟨a, ra2, ea⟩, hpa⟩ : ∃ x, x = rpart r := ⟨_, rfl⟩
    rw [← hpa] at HS1 ra la rb lb hle ⊢
    dsimp only at ra la rb lb hle ⊢
    by_cases he : ea = 0
    case neg =>
      have HR := Lib.hid (rowsE_of (show sopen T ps = segErr ea by rw [HS1.out]; unfold sread1; rw [if_pos he]))
      have hxI : ((ea : Int) != 0) = true := by simp; omega
      clear hpa he ra rb
      go_wp2_with fail
      go_ret2
      exact retVVE_err HR.out hb01
    subst he
    try rw [show ((0 : Nat) : Int) = 0 from rfl]
    have HS2 := Lib.hid (show sopen T ps = sread2 T n a ra2 (rget T a) by rw [HS1.out]; unfold sread1; rw [if_neg (by simp)])
    have ra' := ra.more (B' := w1.heap.size) hb1.size
    have KGa := Rw.RGet_row w1.heap.size A A8 c c8 T a w1 (HRT.out w1 hb01) ra' (Nat.le_refl _) la (by omega) (by omega)
    obtain ⟨⟨lo, eg⟩, hgl⟩ : ∃ x, x = rget T a := ⟨_, rfl⟩
    rw [← hgl] at KGa HS2
    have HGL := Lib.hid hgl
    have KG := Lib.hid KGa
    have RB1 := Lib.hid (rb.more (B' := w1.heap.size) hb1.size)
    have hal : a.length ≤ 1000000 ∧ ra2.length ≤ b.length := by omega
    clear KGa hgl hpa ra rb ra' hb1 KK HS1 hle
    go_wp2_with fail
    refine KG.out.mono ?_; rintro e w2 ⟨A10, c10, rfl, own10, hb2⟩
    have hb02 := hb01.trans (hb2.mono hb01.size)
    have RB2 := Lib.hid (RB1.out.next hb2)
    dsimp only at own10
    by_cases hg : eg = 0
    case neg =>
      have HR := Lib.hid (rowsE_of (show sopen T ps = segErr eg by rw [HS2.out]; unfold sread2; rw [if_pos hg]))
      have hxI : ((eg : Int) != 0) = true := by simp; omega
      clear hg own10
      dsimp only
      go_wp2_with fail
      go_ret2
      exact retVVE_err HR.out hb02
    subst hg
    try rw [show ((0 : Nat) : Int) = 0 from rfl]
    have HS3 := Lib.hid (show sopen T ps = sread3 T n a lo (rpart ra2) by rw [HS2.out]; unfold sread2; rw [if_neg (by simp)])
    have LO2 := Lib.hid (rd_own own10)
    have KK := Lib.hid (rtake_any w2.heap.size A9 c9 ra2 w2 RB2.out lb (by omega))
    clear own10 RB1 HS2 KG
    dsimp only
    go_wp2_with fail
    refine KK.out.mono ?_; rintro e w3 ⟨A11, c11, A12, c12, rfl, ry, ly, rr, lr, hb3⟩
    have hb03 := hb02.trans (hb3.mono hb02.size)
    have LO3 := Lib.hid (LO2.out.next hb3)
    have hle := rpart_le ra2
    obtain ⟨⟨y, rest, ey⟩, hpy⟩ : ∃ x, x = rpart ra2 := ⟨_, rfl⟩
    rw [← hpy] at HS3 ry ly rr lr hle ⊢
    dsimp only at ry ly rr lr hle ⊢
    by_cases he : ey = 0
    case neg =>
      have HR := Lib.hid (rowsE_of (show sopen T ps = segErr ey by rw [HS3.out]; unfold sread3; rw [if_pos he]))
      have hxI : ((ey : Int) != 0) = true := by simp; omega
      clear hpy he ry rr
      go_wp2_with fail
      go_ret2
      exact retVVE_err HR.out hb03
    subst he
    try rw [show ((0 : Nat) : Int) = 0 from rfl]
    have HS4 := Lib.hid (show sopen T ps = sread4 T n a y lo rest (rget T y) by rw [HS3.out]; unfold sread3; rw [if_neg (by simp)])
    have KGa := Rw.RGet_row w3.heap.size A A11 c c11 T y w3 (HRT.out w3 hb03) (ry.more hb3.size) (Nat.le_refl _) ly (by omega) (by omega)
    obtain ⟨⟨hig, eh⟩, hgl⟩ : ∃ x, x = rget T y := ⟨_, rfl⟩
    rw [← hgl] at KGa HS4
    have HGH := Lib.hid hgl
    have KG := Lib.hid KGa
    have RB3 := Lib.hid (rr.more (B' := w3.heap.size) hb3.size)
    have hyl : y.length ≤ 1000000 ∧ rest.length ≤ b.length := by omega
    clear KGa hgl hpy ry rr hb3 KK HS3 hle LO2 RB2 lb
    go_wp2_with fail
    refine KG.out.mono ?_; rintro e w4 ⟨A13, c13, rfl, own13, hb4⟩
    have hb04 := hb03.trans (hb4.mono hb03.size)
    have RB4 := Lib.hid (RB3.out.next hb4)
    have LO4 := Lib.hid (LO3.out.next hb4)
    dsimp only at own13
    by_cases hg : eh = 0
    case neg =>
      have HR := Lib.hid (rowsE_of (show sopen T ps = segErr eh by rw [HS4.out]; unfold sread4; rw [if_pos hg]))
      have hxI : ((eh : Int) != 0) = true := by simp; omega
      clear hg own13
      dsimp only
      go_wp2_with fail
      go_ret2
      exact retVVE_err HR.out hb04
    subst hg
    try rw [show ((0 : Nat) : Int) = 0 from rfl]
    have HS5 := Lib.hid (show sopen T ps = sread5 T n a y lo hig (rcols n T [] rest) by rw [HS4.out]; unfold sread4; rw [if_neg (by simp)])
    have HI4 := Lib.hid (rd_own own13)
    obtain ⟨w5, hmk, own5, hb5⟩ := make_vv_u w4 n (by omega)
    rw [← rowsOf_0 n] at own5
    obtain ⟨tt0, os5⟩ := ownS_of own5
    have hw64 : IntKind.i64.wrap (n : Int) = (n : Int) := by rw [IntKind.wrap_i64]; omega
    obtain ⟨g, hgg⟩ : ∃ g, g = w4.heap.size := ⟨_, rfl⟩
    clear own13 HS4 KG LO3 RB3 hb01 hb02 hb03 own5
    dsimp only
    go_wp2_with fail
    rw [← hgg] at os5 ⊢
    have HG := Lib.hid hgg
    have R5 := Lib.hid (show Rd w5 g A12 (cells rest) by rw [hgg]; exact RB4.out.below hb5)
    clear hgg hmk
    have os5' : OwnS vcells List.length 37 46 3 w5 g (.slice (some ⟨g, 0, none⟩) n n) (rowsOf n []) tt0 := os5
    have hb5' : Below g w4 w5 := by rw [HG.out]; exact hb5
    have HW5 := Lib.hid os5'
    have HR5 := Lib.hid R5
    clear os5 os5' R5 RB4 hb5
    go_loopw [6, 16, 17] (fun v6 v16 v17 wr => ∃ (i : Nat) (acc : List (List V)) (bs : List UInt8) (A6 : Option Addr) (c6 : Nat) (ss tt : List (Option Addr × Nat × Nat)), i ≤ T.length ∧ v17 = .int .i64 i ∧ v6 = .slice A6 bs.length c6 ∧ Rd wr g A6 (cells bs) ∧ bs.length ≤ c6 ∧ bs.length ≤ b.length ∧ acc.length = i ∧
        OwnS vcells List.length 37 46 3 wr g v16 acc ss ∧ OwnS vcells List.length 37 46 3 wr g (.slice (some ⟨g, 0, none⟩) n n) (rowsOf n acc) tt ∧
        (∀ k, Blks v16 ss k → ¬ Blks (.slice (some ⟨g, 0, none⟩) n n) tt k) ∧ Below g w4 wr ∧ (∀ l ∈ acc, l.length = n ∧ (∀ v ∈ l, vsm v) ∧ ∀ v ∈ l, good v) ∧ rcols n T [] rest = rcols n (T.drop i) acc bs) (fun _ _ v17 _ => T.length - (intOf v17).toNat)
    case atStart => exact ⟨0, [], rest, A12, c12, [], tt0, by omega, rfl, rfl, HR5.out, lr, hyl.2, rfl, ⟨rfl, World.ownsRow_nil _ _ _ _, by simp, by simp⟩, HW5.out, by rintro k (h | ⟨s, hs, _⟩); simp [Value.ownBlock] at h; simp at hs, hb5', by simp, by rw [List.drop_zero]⟩
    case round =>
      obtain ⟨i, acc, bs, A6, c6, ss, tt, hi, rfl, rfl, hR, hc6, hbs2, hai, hos, hot, hdis, hB4, hok, hrc⟩ := hrel
      have HAI := Lib.hid hai
      have HOS := Lib.hid hos
      have HOT := Lib.hid hot
      have HDIS := Lib.hid hdis
      have HOK := Lib.hid hok
      have HRC := Lib.hid hrc
      have HR := Lib.hid hR
      have hgw : g ≤ wr.heap.size := by have := hB4.size; have := HG.out; omega
      have hg4 : w.heap.size ≤ g := by have := HG.out; have := hb04.size; omega
      have hB0 : Below w.heap.size w wr := hb04.trans (hB4.mono hg4)
      obtain ⟨A16, c16, rfl, hc16⟩ := hos.own.form
      clear hai hos hot hdis hok hrc hR hb5' HW5 HR5
      by_cases hlt : i < T.length
      case pos =>
        obtain ⟨t, ht⟩ : ∃ t, T[i]? = some t := ⟨_, List.getElem?_eq_getElem hlt⟩
        have hrc := HRC.out
        rw [rcols_at ht] at hrc
        obtain ⟨gt, ot, hgA, hgt, t0⟩ := rd_byte (HRT.out w (Below.refl _ _)) ht
        subst hgA
        have F1 : ∀ w', Below w.heap.size w w' → w'.cell? ⟨gt, ot + i, none⟩ = some (.int .u8 (t.toNat : Int)) := fun w' h => (h.cell (p := ⟨gt, ot + i, none⟩) hgt).trans t0
        have hiI : (i : Int) < (T.length : Int) := by omega
        have KK := Lib.hid (rtake_any g A6 c6 bs wr HR.out hc6 (by omega))
        clear ht t0 HRC
        go_wp2_with fail
        refine KK.out.mono ?_; rintro e w6 ⟨A7, c7, A8, c8, rfl, rz, lz, rr, lr2, hb6⟩
        have hB6 : Below w.heap.size w w6 := hB0.trans (hb6.mono hB0.size)
        have hle := rpart_le bs
        obtain ⟨⟨p, bs2, ep⟩, hpp⟩ : ∃ x, x = rpart bs := ⟨_, rfl⟩
        rw [← hpp] at hrc rz lz rr lr2 hle ⊢
        dsimp only at hrc rz lz rr lr2 hle ⊢
        by_cases he : ep = 0
        case neg =>
          have HE := Lib.hid (rowsE_of (show sopen T ps = segErr ep by rw [HS5.out, hrc, if_pos he]; unfold sread5; rw [if_pos he]))
          have hxI : ((ep : Int) != 0) = true := by simp; omega
          clear hpp he hrc rz rr
          go_wp2_with fail
          go_ret2
          exact retVVE_err HE.out hB6
        subst he
        try rw [show ((0 : Nat) : Int) = 0 from rfl]
        rw [if_neg (by simp)] at hrc
        have hpl : p.length ≤ 1000000 ∧ bs2.length ≤ b.length := by omega
        have q6 := F1 w6 hB6
        have hz6 := hb6.size
        have KCa := rcget_any w6.heap.size A7 c7 t p (n : Int) w6 (rz.more (by omega)) lz (Nat.le_refl _) ⟨by omega, by omega⟩ (by omega)
        have hcg := cgot_good (t := t) (n := (n : Int)) hpl.1
        obtain ⟨⟨l, ec⟩, hcl⟩ : ∃ x, x = cget t p (n : Int) := ⟨_, rfl⟩
        rw [← hcl] at hrc KCa hcg
        dsimp only at hrc hcg
        have KC := Lib.hid KCa
        have HRC := Lib.hid hrc
        have HCG := Lib.hid hcg
        have HOS6 := Lib.hid (HOS.out.below hb6)
        have HOT6 := Lib.hid (HOT.out.below hb6)
        have RR6 := Lib.hid rr
        have hB46 : Below g w4 w6 := hB4.trans (hb6.mono hgw)
        clear hpp hrc hcl KCa rz rr KK HR hcg hb6 hle
        go_wp2_with fail
        refine KC.out.mono ?_; rintro e w7 ⟨A9, c9, rfl, own9, hb7⟩
        have hB7 : Below w.heap.size w w7 := hB6.trans (hb7.mono hB6.size)
        dsimp only at own9
        by_cases hec : ec = 0
        case neg =>
          have HE := Lib.hid (rowsE_of (show sopen T ps = segErr ec by rw [HS5.out, HRC.out, if_pos hec]; unfold sread5; rw [if_pos hec]))
          have hxI : ((ec : Int) != 0) = true := by simp; omega
          clear hec own9
          dsimp only
          go_wp2_with fail
          go_ret2
          exact retVVE_err HE.out hB7
        subst hec
        try rw [show ((0 : Nat) : Int) = 0 from rfl]
        obtain ⟨k1, k2, k3⟩ := HCG.out rfl
        have hln : l.length = n := by omega
        have HLN := Lib.hid hln
        have HRC2 := Lib.hid (show rcols n T [] rest = rcols n (T.drop (i + 1)) (acc ++ [l]) bs2 from by rw [HRC.out, if_neg (by simp)])
        have HK23 := Lib.hid (And.intro k2 k3)
        have HL7 := Lib.hid own9
        have hz7 := hb7.size
        have o6 := HOS6.out.below hb7
        have hlS : ss.length = acc.length := HOS6.out.1
        have o6a := o6.2.1.alloc (.cells #[.slice A9 l.length c9] 37)
        rw [hlS] at o6a
        have hacl : acc.length ≤ 1000 := by have := HAI.out; omega
        have HLS := Lib.hid hlS
        have RR7 := Lib.hid (RR6.out.below (hb7.mono (by omega)))
        have HT7 := Lib.hid (HOT6.out.below hb7)
        have hb67 := Lib.hid hb7
        clear own9 k1 k2 k3 hln HRC HCG KC hlS o6
        dsimp only
        go_wp2_with (at_builtin; refine wpList_app El_vs rfl _ _ rfl o6a rfl rfl (by exact rd_one _ _ _ _ _ rfl (Nat.lt_add_one _)) rfl (by intro u hu; simp at hu; subst hu; rfl) (by unfold maxLen; omega) (by omega) (by simp; omega) ?_; intro v8 w8 hown8 hg8 hor8)
        obtain ⟨A17, c17, rfl, _⟩ := own_form hown8
        obtain ⟨os8, hblk8⟩ := HOS6.out.app (s := (A9, l.length, c9)) (b := l) (by decide) hb67.out (by omega) rfl HL7.out (.cells #[.slice A9 l.length c9] 37) (w' := w8) (v' := .slice A17 (acc.length + 1) c17) (by rw [HLS.out]; exact hown8) hg8 hor8
        have ot8 := OwnS.kept (F := fun k => Blks (.slice (some ⟨g, 0, none⟩) n n) tt k) HT7.out (((KeepF.refl _ w7).alloc (.cells #[.slice A9 l.length c9] 37)).grown hg8 (fun k hk _ e => HDIS.out k (.inl e) hk)) (fun k hk => hk)
        have d8 : ∀ k, Blks (.slice A17 (acc.length + 1) c17) (ss ++ [(A9, l.length, c9)]) k → ¬ Blks (.slice (some ⟨g, 0, none⟩) n n) tt k := fun k hk hk2 => by
          rcases hblk8 k hk with h | h
          · exact HDIS.out k h hk2
          · have := (HOT6.out.lt hk2).2; omega
        have hgx : g ≤ (w7.alloc (.cells #[.slice A9 l.length c9] 37)).heap.size := by simp; omega
        have hb78 : Below g w7 w8 := ((Below.refl g w7).alloc (by omega) _).trans (own_below o6a hg8 hgx)
        have hB48 : Below g w4 w8 := (hB46.trans (hb7.mono (by omega))).trans hb78
        have RR8 := Lib.hid (RR7.out.below hb78)
        have ownl := (os8.2.2.1 acc.length (A9, l.length, c9) l (by rw [← HLS.out]; simp) (by simp)).2
        have HOS8 := Lib.hid os8
        have HD8 := Lib.hid d8
        have HOT8 := Lib.hid ot8
        have HOL := Lib.hid ownl
        obtain ⟨F, hF⟩ : ∃ F : Nat → Prop, F = fun k => k < w8.heap.size ∧ ¬ Blks (.slice (some ⟨g, 0, none⟩) n n) tt k := ⟨_, rfl⟩
        have HF := Lib.hid hF
        have HF0 := Lib.hid (show ∀ k, F k → ¬ Blks (.slice (some ⟨g, 0, none⟩) n n) tt k from fun k hk => by rw [hF] at hk; exact hk.2)
        have HFS := Lib.hid (show ∀ k, F k → k < w8.heap.size from fun k hk => by rw [hF] at hk; exact hk.1)
        clear os8 hblk8 ot8 d8 ownl hown8 hg8 hor8 o6a hF RR7 HT7 RR6 HOT6 HOS6 hb67 HL7 hb7 hB7 hB6 q6
        obtain ⟨wq, hwq⟩ : ∃ w2, w2 = wr := ⟨_, rfl⟩
        subst hwq
        go_wp2_with fail
        go_loopw [22] (fun v22 wr => ∃ (j : Nat) (tt2 : List (Option Addr × Nat × Nat)), j ≤ n ∧ v22 = .int .i64 j ∧ OwnS vcells List.length 37 46 3 wr g (.slice (some ⟨g, 0, none⟩) n n) (stR n acc l j) tt2 ∧ KeepF F w8 wr ∧ (∀ k, F k → ¬ Blks (.slice (some ⟨g, 0, none⟩) n n) tt2 k) ∧ Below g w8 wr) (fun v22 _ => n - (intOf v22).toNat)
        case atStart => exact ⟨0, tt, by omega, rfl, by rw [stR_0]; exact HOT8.out, KeepF.refl _ _, HF0.out, Below.refl _ _⟩
        case round =>
          obtain ⟨j, tt2, hj, rfl, hot2, hkeep, hdf, hbel⟩ := hrel
          have HDF := Lib.hid hdf
          clear hdf
          by_cases hjn : j < n
          case neg =>
            have hjj : j = n := by omega
            have hge2 : (n : Int) ≤ (j : Int) := by omega
            rw [hjj, stR_end] at hot2
            have HO2 := Lib.hid hot2
            have HC2 := Lib.hid (HOS8.out.kept hkeep (fun k hk => by rw [HF.out]; exact ⟨(HOS8.out.lt hk).2, HD8.out k hk⟩))
            have HD2 := Lib.hid (show ∀ k, Blks (.slice A17 (acc.length + 1) c17) (ss ++ [(A9, l.length, c9)]) k → ¬ Blks (.slice (some ⟨g, 0, none⟩) n n) tt2 k from fun k hk => HDF.out k (by rw [HF.out]; exact ⟨(HOS8.out.lt hk).2, HD8.out k hk⟩))
            clear hjj hot2
            go_wp2_with fail
            go_roundw
            case rel =>
              refine ⟨i + 1, acc ++ [l], bs2, A8, c8, ss ++ [(A9, l.length, c9)], tt2, by omega, by go_num, rfl, RR8.out.below hbel, lr2, hpl.2, by rw [List.length_append, HAI.out]; rfl, HC2.out, HO2.out, HD2.out, hB48.trans hbel, fun l' hl' => ?_, HRC2.out⟩
              rcases List.mem_append.1 hl' with h | h
              · exact HOK.out l' h
              · simp at h; rw [h]; exact ⟨HLN.out, HK23.out⟩
            case measure => simp [intOf]; omega
          have hll := HLN.out
          obtain ⟨v, hv⟩ : ∃ v, l[j]? = some v := ⟨_, List.getElem?_eq_getElem (by omega)⟩
          obtain ⟨gl, cap, hA9, _, hgl⟩ := own_ptr HOL.out (by omega)
          have hA9' : A9 = some ⟨gl, 0, none⟩ := by simp only [sl3, Value.slice.injEq] at hA9; exact hA9.1
          obtain ⟨gb, ob, hAb, _, p0, p1, p2⟩ := rd_val (rd_own (show w8.ownsRow g 46 3 (.slice A9 l.length c9) l.length (vcells l) from HOL.out)) hv
          rw [hA9'] at hAb
          simp only [Option.some.injEq, Addr.mk.injEq, and_true] at hAb
          obtain ⟨rfl, rfl⟩ := hAb
          have hFl : F gl := by
            rw [HF.out]
            exact ⟨hgl, HD8.out gl (.inr ⟨(A9, l.length, c9), by simp, by rw [hA9']; simp [sl3, Value.ownBlock]⟩)⟩
          have F2 : ∀ w', KeepF F w8 w' → w'.cell? ⟨gl, 0 + j * 3, none⟩ = some (.int .u8 (v.k : Int)) ∧ w'.cell? ⟨gl, 0 + j * 3 + 1, none⟩ = some (.int .i64 v.n) ∧ w'.cell? ⟨gl, 0 + j * 3 + 2, none⟩ = some (txt v.t) := fun w' h => ⟨h.cell (p := ⟨gl, 0 + j * 3, none⟩) hFl p0, h.cell (p := ⟨gl, 0 + j * 3 + 1, none⟩) hFl p1, h.cell (p := ⟨gl, 0 + j * 3 + 2, none⟩) hFl p2⟩
          simp only [Nat.zero_add] at F2
          have HAT := Lib.hid (stR_at acc l hjn)
          have HST := Lib.hid (stR_set acc l hjn hv)
          have hCl0 := colAt_length acc j
          obtain ⟨C, hC⟩ : ∃ C, C = colAt acc j := ⟨_, rfl⟩
          have hCl : C.length ≤ 1000 := by rw [hC]; omega
          rw [← hC] at HAT HST
          have hjI : (j : Int) < (n : Int) := by omega
          have hjl : j < l.length := by omega
          have hjlI : (j : Int) < (l.length : Int) := by omega
          obtain ⟨we, hwe⟩ : ∃ we, we = wr.drew := ⟨_, rfl⟩
          have ownE : OwnS vcells List.length 37 46 3 we g (.slice (some ⟨g, 0, none⟩) n n) (stR n acc l j) tt2 := by rw [hwe]; exact hot2
          have keepE : KeepF F w8 we := by rw [hwe]; exact hkeep.drew
          have belE : Below g w8 we := by rw [hwe]; exact hbel.drew
          obtain ⟨s, sc, sf, sn, scap, so⟩ := ownE.own.at HAT.out
          have hgs : g < we.heap.size := cell_lt sc
          have HBS := Lib.hid (ownE.blk (by rw [stR_length]; exact hjn) sc)
          obtain ⟨s1, s2, s3⟩ := s
          dsimp only at sn
          subst sn
          have HOE := Lib.hid ownE
          simp only [sl3] at sc so
          have hz8 : w8.heap.size ≤ we.heap.size := keepE.1
          subst hA9'
          clear p0 p1 p2 hv hC hot2 scap hA9 hgl hll hCl0 ownE
          go_wp2_with fail
          refine ah_start 14 (fun w' => KeepF F w8 w') rfl (by kernel_rfl) hkeep.drew ?_ ; intro hS
          rw [← hwe]
          rw [← hwe] at hS
          clear hwe hbel hkeep
          (refine mv_val 0 (v := ?_) rfl (by kernel_rfl) (by kernel_rfl) (by kernel_rfl) (fun _ _ _ h => h) (by rfl) hS ?_ ?_; rotate_left; (focus (intro w hSw; (try dsimp only at hSw); (have f1 := (F2 w hSw).1; have f2 := (F2 w hSw).2.1; have f3 := (F2 w hSw).2.2; have f4 := hjl; have f5 := hjlI; have f6 := hjn; have f7 := hjI); go_simp; first | done | with_reducible rfl)); simp only [Act.put, List.setIfInBounds_toArray, List.set_cons_zero, List.set_cons_succ])
          (refine mv_val 1 (v := ?_) rfl (by kernel_rfl) (by kernel_rfl) (by kernel_rfl) (fun _ _ _ h => h) (by rfl) hS ?_ ?_; rotate_left; (focus (intro w hSw; (try dsimp only at hSw); (have f1 := (F2 w hSw).1; have f2 := (F2 w hSw).2.1; have f3 := (F2 w hSw).2.2; have f4 := hjl; have f5 := hjlI; have f6 := hjn; have f7 := hjI); go_simp; first | done | with_reducible rfl)); simp only [Act.put, List.setIfInBounds_toArray, List.set_cons_zero, List.set_cons_succ])
          (refine mv_val 2 (v := ?_) rfl (by kernel_rfl) (by kernel_rfl) (by kernel_rfl) (fun _ _ _ h => h) (by rfl) hS ?_ ?_; rotate_left; (focus (intro w hSw; (try dsimp only at hSw); (have f1 := (F2 w hSw).1; have f2 := (F2 w hSw).2.1; have f3 := (F2 w hSw).2.2; have f4 := hjl; have f5 := hjlI; have f6 := hjn; have f7 := hjI); go_simp; first | done | with_reducible rfl)); simp only [Act.put, List.setIfInBounds_toArray, List.set_cons_zero, List.set_cons_succ])
          (refine mv_val 3 (v := ?_) rfl (by kernel_rfl) (by kernel_rfl) (by kernel_rfl) (fun _ _ _ h => h) (by rfl) hS ?_ ?_; rotate_left; (focus (intro w hSw; (try dsimp only at hSw); (have f1 := (F2 w hSw).1; have f2 := (F2 w hSw).2.1; have f3 := (F2 w hSw).2.2; have f4 := hjl; have f5 := hjlI; have f6 := hjn; have f7 := hjI); go_simp; first | done | with_reducible rfl)); simp only [Act.put, List.setIfInBounds_toArray, List.set_cons_zero, List.set_cons_succ])
          (refine mv_val 4 (v := ?_) rfl (by kernel_rfl) (by kernel_rfl) (by kernel_rfl) (fun _ _ _ h => h) (by rfl) hS ?_ ?_; rotate_left; (focus (intro w hSw; (try dsimp only at hSw); (have f1 := (F2 w hSw).1; have f2 := (F2 w hSw).2.1; have f3 := (F2 w hSw).2.2; have f4 := hjl; have f5 := hjlI; have f6 := hjn; have f7 := hjI); go_simp; first | done | with_reducible rfl)); simp only [Act.put, List.setIfInBounds_toArray, List.set_cons_zero, List.set_cons_succ])
          (refine mv_val 6 (v := ?_) rfl (by kernel_rfl) (by kernel_rfl) (by kernel_rfl) (fun _ _ _ h => h) (by rfl) hS ?_ ?_; rotate_left; (focus (intro w hSw; (try dsimp only at hSw); (have f1 := (F2 w hSw).1; have f2 := (F2 w hSw).2.1; have f3 := (F2 w hSw).2.2; have f4 := hjl; have f5 := hjlI; have f6 := hjn; have f7 := hjI); go_simp; first | done | with_reducible rfl)); simp only [Act.put, List.setIfInBounds_toArray, List.set_cons_zero, List.set_cons_succ])
          (refine mv_val 7 (v := ?_) rfl (by kernel_rfl) (by kernel_rfl) (by kernel_rfl) (fun _ _ _ h => h) (by rfl) hS ?_ ?_; rotate_left; (focus (intro w hSw; (try dsimp only at hSw); (have f1 := (F2 w hSw).1; have f2 := (F2 w hSw).2.1; have f3 := (F2 w hSw).2.2; have f4 := hjl; have f5 := hjlI; have f6 := hjn; have f7 := hjI); go_simp; first | done | with_reducible rfl)); simp only [Act.put, List.setIfInBounds_toArray, List.set_cons_zero, List.set_cons_succ])
          (refine mv_val 8 (v := ?_) rfl (by kernel_rfl) (by kernel_rfl) (by kernel_rfl) (fun _ _ _ h => h) (by rfl) hS ?_ ?_; rotate_left; (focus (intro w hSw; (try dsimp only at hSw); (have f1 := (F2 w hSw).1; have f2 := (F2 w hSw).2.1; have f3 := (F2 w hSw).2.2; have f4 := hjl; have f5 := hjlI; have f6 := hjn; have f7 := hjI); go_simp; first | done | with_reducible rfl)); simp only [Act.put, List.setIfInBounds_toArray, List.set_cons_zero, List.set_cons_succ])
          (refine mv_val 9 (v := ?_) rfl (by kernel_rfl) (by kernel_rfl) (by kernel_rfl) (fun _ _ _ h => h) (by rfl) hS ?_ ?_; rotate_left; (focus (intro w hSw; (try dsimp only at hSw); (have f1 := (F2 w hSw).1; have f2 := (F2 w hSw).2.1; have f3 := (F2 w hSw).2.2; have f4 := hjl; have f5 := hjlI; have f6 := hjn; have f7 := hjI); go_simp; first | done | with_reducible rfl)); simp only [Act.put, List.setIfInBounds_toArray, List.set_cons_zero, List.set_cons_succ])
          refine mv_two 5 10 rfl rfl (by kernel_rfl) (by rfl) (by rfl) (fun K hK => ?_) (fun K hK => ?_)
          · skip
            go_simp
            refine hK _ _ ?_ ?_ <;> clear hK K
            · exact hS
            try simp only [Act.put, List.setIfInBounds_toArray, List.set_cons_zero, List.set_cons_succ]
            refine mv_step 10 rfl (by kernel_rfl) (by rfl) (fun K hK => ?_)
            go_simp
            refine hK _ _ ?_ ?_ <;> clear hK K
            · exact (keepE.alloc _)
            try simp only [Act.put, List.setIfInBounds_toArray, List.set_cons_zero, List.set_cons_succ]
            refine mv_step 11 rfl (by kernel_rfl) (by rfl) (fun K hK => ?_)
            refine wp_app HEL _ _ rfl (by exact so.alloc _) rfl rfl (by exact cv_three v rfl) rfl (cv_one _) (by unfold maxLen; omega) (by have : (C.length + 1) * by_ ≤ 1000001 * 64 := Nat.mul_le_mul (by omega) hby; omega) (by show g ≤ (we.alloc _).heap.size; simp; omega) ?_; intro v7 w7 hown7 hg7 hor7; refine hK _ _ ?_ ?_ <;> clear hK K
            · exact (keepE.alloc _).grown hg7 (fun k hk _ e => HDF.out k hk (HBS.out k (by exact e)))
            have k7 : KeepF F w8 w7 := (keepE.alloc _).grown hg7 (fun k hk _ e => HDF.out k hk (HBS.out k (by exact e)))
            have b7 : Below g w8 w7 := (belE.alloc (by omega) _).trans (own_below (by exact so.alloc _) hg7 (by show g ≤ (we.alloc _).heap.size; simp; omega))
            rw [← vcells_snoc, ← List.length_singleton (a := v), ← List.length_append] at hown7
            obtain ⟨A7, c7, rfl, _⟩ := own_form hown7
            have hg8 : (we.alloc (.cells #[.int .u8 (v.k : Int), .int .i64 v.n, txt v.t] 46)).grownBy w7 (Value.slice s1 C.length s3).ownBlock := hg7
            have hor8 : (Value.slice A7 (C ++ [v]).length c7).ownBlock = (Value.slice s1 C.length s3).ownBlock ∨ (Value.slice A7 (C ++ [v]).length c7).ownBlock = some (we.alloc (.cells #[.int .u8 (v.k : Int), .int .i64 v.n, txt v.t] 46)).heap.size := hor7
            have hU := HOE.out.upd (s := (s1, C.length, s3)) (s' := (A7, (C ++ [v]).length, c7)) (b' := C ++ [v]) (by decide) HAT.out sc rfl hown7 ((Below.refl _ we).alloc (Nat.le_refl _) _) hg8 hor8
            rw [HST.out] at hU
            obtain ⟨⟨x7, y7⟩, hU1, hU2, _⟩ := hU
            simp only [sl3] at x7 hU1
            have HU := Lib.hid hU1
            have HU2 := Lib.hid (show ∀ k, F k → ¬ Blks (.slice (some ⟨g, 0, none⟩) n n) (tt2.set j (A7, (C ++ [v]).length, c7)) k from fun k hk hb => by
              rcases hU2 k hb with h | h
              · exact HDF.out k hk h
              · have := HFS.out k hk; omega)
            have HLN2 := Lib.hid (show (C ++ [v]).length = C.length + 1 by simp)
            rw [HLN2.out] at hown7 HU HU2 ⊢
            clear hU1 hU2 hg7 hor7 hg8 hor8 hown7
            replace hS := k7
            try simp only [Act.put, List.setIfInBounds_toArray, List.set_cons_zero, List.set_cons_succ]
            (refine mv_val 12 (v := ?_) rfl (by kernel_rfl) (by kernel_rfl) (by kernel_rfl) (fun _ _ _ h => h) (by rfl) hS ?_ ?_; rotate_left; (focus (intro w hSw; (try dsimp only at hSw); (have f1 := (F2 w hSw).1; have f2 := (F2 w hSw).2.1; have f3 := (F2 w hSw).2.2; have f4 := hjl; have f5 := hjlI; have f6 := hjn; have f7 := hjI); go_simp; first | done | with_reducible rfl)); simp only [Act.put, List.setIfInBounds_toArray, List.set_cons_zero, List.set_cons_succ])
            refine mv_step 13 rfl (by kernel_rfl) (by rfl) (fun K hK => ?_)
            go_simp
            refine hK _ _ ?_ ?_ <;> clear hK K
            · exact k7.set g j _ (fun hf _ => HDF.out g hf (.inl rfl))
            try simp only [Act.put, List.setIfInBounds_toArray, List.set_cons_zero, List.set_cons_succ]
            refine wpAnyH_done (by kernel_rfl) ?_ _
            go_wp2_with fail
            go_roundw
            case rel => exact ⟨j + 1, _, by omega, by go_num, HU.out, k7.set g j _ (fun hf _ => HDF.out g hf (.inl rfl)), HU2.out, b7.setCell (p := ⟨g, j, none⟩) (Nat.le_refl _) _⟩
            case measure => simp [intOf]; omega
          · skip
            go_simp
            refine hK _ _ ?_ ?_ <;> clear hK K
            · exact (keepE.alloc _)
            try simp only [Act.put, List.setIfInBounds_toArray, List.set_cons_zero, List.set_cons_succ]
            refine mv_step 5 rfl (by kernel_rfl) (by rfl) (fun K hK => ?_)
            go_simp
            refine hK _ _ ?_ ?_ <;> clear hK K
            · exact (keepE.alloc _)
            try simp only [Act.put, List.setIfInBounds_toArray, List.set_cons_zero, List.set_cons_succ]
            refine mv_step 11 rfl (by kernel_rfl) (by rfl) (fun K hK => ?_)
            refine wp_app HEL _ _ rfl (by exact so.alloc _) rfl rfl (by exact cv_three v rfl) rfl (cv_one _) (by unfold maxLen; omega) (by have : (C.length + 1) * by_ ≤ 1000001 * 64 := Nat.mul_le_mul (by omega) hby; omega) (by show g ≤ (we.alloc _).heap.size; simp; omega) ?_; intro v7 w7 hown7 hg7 hor7; refine hK _ _ ?_ ?_ <;> clear hK K
            · exact (keepE.alloc _).grown hg7 (fun k hk _ e => HDF.out k hk (HBS.out k (by exact e)))
            have k7 : KeepF F w8 w7 := (keepE.alloc _).grown hg7 (fun k hk _ e => HDF.out k hk (HBS.out k (by exact e)))
            have b7 : Below g w8 w7 := (belE.alloc (by omega) _).trans (own_below (by exact so.alloc _) hg7 (by show g ≤ (we.alloc _).heap.size; simp; omega))
            rw [← vcells_snoc, ← List.length_singleton (a := v), ← List.length_append] at hown7
            obtain ⟨A7, c7, rfl, _⟩ := own_form hown7
            have hg8 : (we.alloc (.cells #[.int .u8 (v.k : Int), .int .i64 v.n, txt v.t] 46)).grownBy w7 (Value.slice s1 C.length s3).ownBlock := hg7
            have hor8 : (Value.slice A7 (C ++ [v]).length c7).ownBlock = (Value.slice s1 C.length s3).ownBlock ∨ (Value.slice A7 (C ++ [v]).length c7).ownBlock = some (we.alloc (.cells #[.int .u8 (v.k : Int), .int .i64 v.n, txt v.t] 46)).heap.size := hor7
            have hU := HOE.out.upd (s := (s1, C.length, s3)) (s' := (A7, (C ++ [v]).length, c7)) (b' := C ++ [v]) (by decide) HAT.out sc rfl hown7 ((Below.refl _ we).alloc (Nat.le_refl _) _) hg8 hor8
            rw [HST.out] at hU
            obtain ⟨⟨x7, y7⟩, hU1, hU2, _⟩ := hU
            simp only [sl3] at x7 hU1
            have HU := Lib.hid hU1
            have HU2 := Lib.hid (show ∀ k, F k → ¬ Blks (.slice (some ⟨g, 0, none⟩) n n) (tt2.set j (A7, (C ++ [v]).length, c7)) k from fun k hk hb => by
              rcases hU2 k hb with h | h
              · exact HDF.out k hk h
              · have := HFS.out k hk; omega)
            have HLN2 := Lib.hid (show (C ++ [v]).length = C.length + 1 by simp)
            rw [HLN2.out] at hown7 HU HU2 ⊢
            clear hU1 hU2 hg7 hor7 hg8 hor8 hown7
            replace hS := k7
            try simp only [Act.put, List.setIfInBounds_toArray, List.set_cons_zero, List.set_cons_succ]
            (refine mv_val 12 (v := ?_) rfl (by kernel_rfl) (by kernel_rfl) (by kernel_rfl) (fun _ _ _ h => h) (by rfl) hS ?_ ?_; rotate_left; (focus (intro w hSw; (try dsimp only at hSw); (have f1 := (F2 w hSw).1; have f2 := (F2 w hSw).2.1; have f3 := (F2 w hSw).2.2; have f4 := hjl; have f5 := hjlI; have f6 := hjn; have f7 := hjI); go_simp; first | done | with_reducible rfl)); simp only [Act.put, List.setIfInBounds_toArray, List.set_cons_zero, List.set_cons_succ])
            refine mv_step 13 rfl (by kernel_rfl) (by rfl) (fun K hK => ?_)
            go_simp
            refine hK _ _ ?_ ?_ <;> clear hK K
            · exact k7.set g j _ (fun hf _ => HDF.out g hf (.inl rfl))
            try simp only [Act.put, List.setIfInBounds_toArray, List.set_cons_zero, List.set_cons_succ]
            refine wpAnyH_done (by kernel_rfl) ?_ _
            go_wp2_with fail
            go_roundw
            case rel => exact ⟨j + 1, _, by omega, by go_num, HU.out, k7.set g j _ (fun hf _ => HDF.out g hf (.inl rfl)), HU2.out, b7.setCell (p := ⟨g, j, none⟩) (Nat.le_refl _) _⟩
            case measure => simp [intOf]; omega
      have hge : (T.length : Int) ≤ (i : Int) := by omega
      have hiT : i = T.length := by omega
      have hE : rcols n T [] rest = (acc, bs, 0) := by rw [HRC.out, hiT, List.drop_length]; rfl
      have hco : ColsOk T n acc := by
        obtain ⟨ds, e1, e2, _⟩ := rcols_inv n T [] rest (by omega) (by rw [hE])
        rw [hE, List.nil_append] at e1
        dsimp only at e1
        rw [e1]; exact e2
      obtain ⟨⟨ro1, ro2⟩, ⟨vs1, vs2⟩, _⟩ := ColsOk.low HK.out hco
      have hm6 : (1000000 : Nat) ≤ maxLen := by unfold maxLen; omega
      have c1 := cmp_row HK.out (show a.length ≤ maxLen by omega) HGL.out.symm ro1 vs1
      have c2 := cmp_row HK.out (show y.length ≤ maxLen by omega) HGH.out.symm ro2 vs2
      have hacl : acc.length ≤ 1000 := by have := HAI.out; omega
      have ll := least_length acc
      have lg := greatest_length acc
      have KB := Lib.hid (rbounds7_any wr.heap.size A16 c16 acc wr HOS.out.own.rd (Nat.le_refl _) (by omega) (fun l hl => ⟨by have := (HOK.out l hl).1; omega, (HOK.out l hl).2.2⟩))
      have HSF := Lib.hid (show sopen T ps = if bs ≠ [] ∨ least acc ≠ lo ∨ greatest acc ≠ hig then segErr 21 else ⟨acc, n, lo, hig, 0⟩ by
        rw [HS5.out, hE]
        unfold sread5
        rw [if_neg (by simp)]
        dsimp only
        have e1 : ((rput T (least acc)).1 ≠ a) = (least acc ≠ lo) := by rw [ne_eq, ne_eq, c1]
        have e2 : ((rput T (greatest acc)).1 ≠ y) = (greatest acc ≠ hig) := by rw [ne_eq, ne_eq, c2]
        simp only [e1, e2])
      have HOT9 := Lib.hid (HOT.out.own)
      have hB4' : Below w4.heap.size w4 wr := by rw [← HG.out]; exact hB4
      have LO9 := Lib.hid (LO4.out.next hB4')
      have HI9 := Lib.hid (HI4.out.next hB4')
      obtain ⟨P, hP⟩ : ∃ P, P = least acc := ⟨_, rfl⟩
      obtain ⟨Q, hQ⟩ : ∃ Q, Q = greatest acc := ⟨_, rfl⟩
      rw [← hP, ← hQ] at KB HSF
      have hPl : P.length ≤ maxLen ∧ Q.length ≤ maxLen := by rw [hP, hQ]; omega
      clear hP hQ hiT hE hco ro1 ro2 vs1 vs2 c1 c2 ll lg hB4' HRC HOS hb4 hb2
      go_wp2_with fail
      refine KB.out.mono ?_; rintro e w6 ⟨A18, c18, A19, c19, rfl, rP, rQ, hb6⟩
      have hB6 : Below w.heap.size w w6 := hB0.trans (hb6.mono hB0.size)
      have HQ6 := Lib.hid rQ
      have HI6 := Lib.hid (HI9.out.next hb6)
      have HO6 := Lib.hid (HOT9.out.below hb6)
      by_cases hb0 : bs = []
      case neg =>
        have hpos : (0 : Int) < (bs.length : Int) := by have := List.length_pos_iff.2 hb0; omega
        have hpos2 : 0 < bs.length := by omega
        have HE := Lib.hid (rowsE_of (HSF.out.trans (if_pos (.inl hb0))))
        clear rP rQ
        go_wp2_with fail
        go_ret2
        exact retVVE_err HE.out hB6
      subst hb0
      have KE := Lib.hid (Same_any w6.heap.size A18 A10 c18 c10 P lo w6 rP (LO9.out.next hb6) (Nat.le_refl _) hPl.1)
      clear rP rQ hb6
      by_cases hxa : P = lo
      case neg =>
        have HE := Lib.hid (rowsE_of (HSF.out.trans (if_pos (.inr (.inl hxa)))))
        have hd : decide (P = lo) = false := by simp [hxa]
        rw [hd] at KE
        clear hxa hd
        go_wp2_with fail
        refine KE.out.mono ?_; rintro e w7 ⟨rfl, hb7⟩
        go_wp2_with fail
        go_ret2
        exact retVVE_err HE.out (hB6.trans (hb7.mono hB6.size))
      have hd : decide (P = lo) = true := by simp [hxa]
      rw [hd] at KE
      have HXA := Lib.hid hxa
      clear hxa hd
      go_wp2_with fail
      refine KE.out.mono ?_; rintro e w7 ⟨rfl, hb7⟩
      have hB7 : Below w.heap.size w w7 := hB6.trans (hb7.mono hB6.size)
      have HO7 := Lib.hid (HO6.out.below hb7)
      have KF := Lib.hid (Same_any w7.heap.size A19 A13 c19 c13 Q hig w7 (HQ6.out.next hb7) (HI6.out.next hb7) (Nat.le_refl _) hPl.2)
      clear KE hb7
      by_cases huy : Q = hig
      case neg =>
        have HE := Lib.hid (rowsE_of (HSF.out.trans (if_pos (.inr (.inr huy)))))
        have hd : decide (Q = hig) = false := by simp [huy]
        rw [hd] at KF
        clear huy hd
        go_wp2_with fail
        refine KF.out.mono ?_; rintro e w8 ⟨rfl, hb8⟩
        go_wp2_with fail
        go_ret2
        exact retVVE_err HE.out (hB7.trans (hb8.mono hB7.size))
      have hd : decide (Q = hig) = true := by simp [huy]
      rw [hd] at KF
      have HE := Lib.hid (HSF.out.trans (if_neg (by rw [HXA.out, huy]; simp)))
      clear huy hd HSF HXA
      go_wp2_with fail
      refine KF.out.mono ?_; rintro e w8 ⟨rfl, hb8⟩
      have HFIN := Lib.hid (HO7.out.below hb8)
      have hB8 : Below w.heap.size w w8 := hB7.trans (hb8.mono hB7.size)
      clear hb8 KF
      go_wp2_with fail
      go_ret2
      rw [HE.out]
      exact ⟨some ⟨g, 0, none⟩, n, by unfold rowsE; dsimp only; rw [rowsOf_length]; rfl, by unfold rowsE; dsimp only; rw [rowsOf_length]; exact HFIN.out.lower hg4, hB8⟩
end Go.Proofs.Ythkpgjcnnfdibaa

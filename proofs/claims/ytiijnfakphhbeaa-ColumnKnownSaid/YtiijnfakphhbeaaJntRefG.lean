/- The walk of the reference's Get (layer 5): it answers iget. For rows of bytes of at most 2^32. -/
import Derived.Test.YtiijnfakphhbeaaJntRefP
namespace Go.Proofs.Ytiijnfakphhbeaa.In
open Go.RowKit
set_option linter.unusedVariables false
set_option linter.unusedSimpArgs false

set_option maxHeartbeats 4000000 in
set_option maxRecDepth 100000 in
theorem rGet_ints (B : Nat) (A : Option Addr) (c : Nat) (l : List UInt8) (n : Int) (w : World) (h : Rd w B A (cells l)) (hB : B ≤ w.heap.size) (hc : l.length ≤ c) (hl : l.length ≤ 4294967296) (hn : i64 n) :
    Calls Try.prog 55 #[.slice A l.length c, .int .i64 n] w (RetI w (iget l n)) := by
  unfold i64 at hn
  obtain ⟨hn1, hn2⟩ := hn
  by_cases hneg : n < 0
  · have he : iget l n = ([], 1) := by unfold iget; rw [if_pos (.inl hneg)]
    have HE := Lib.hid he
    clear he
    go_enter Try.func55, Try.ntmps55
    go_wp2_with fail
    go_ret2
    exact retI_err HE.out (Below.refl _ _)
  by_cases hbig : 65536 < n
  · have he : iget l n = ([], 1) := by unfold iget; rw [if_pos (.inr hbig)]
    have HE := Lib.hid he
    clear he
    have hneg' : 0 ≤ n := by omega
    clear hneg
    go_enter Try.func55, Try.ntmps55
    go_wp2_with fail
    go_ret2
    exact retI_err HE.out (Below.refl _ _)
  obtain ⟨N, rfl⟩ := Int.eq_ofNat_of_zero_le (show 0 ≤ n by omega)
  have hN : N ≤ 65536 := by omega
  have hd1 : decide ((N : Int) < 0) = false := by simp
  have hd2 : decide (65536 < (N : Int)) = false := by simp; omega
  clear hneg hbig hn1 hn2
  go_enter Try.func55, Try.ntmps55
  go_wp2_with fail
  go_loopw [6, 7] (fun v6 v7 wr => ∃ (cs : List Int) (p : Nat), p ≤ l.length ∧ v7 = .int .i64 p ∧ cs.length ≤ N ∧
      wr.ownsRow w.heap.size 74 1 v6 cs.length (ucells cs) ∧ (∀ x ∈ cs, i64 x) ∧ dget N [] l = dget N cs (l.drop p) ∧ Below w.heap.size w wr)
    (fun v6 _ _ => N - lenOf v6)
  case atStart => exact ⟨[], 0, Nat.zero_le _, rfl, Nat.zero_le _, World.ownsRow_nil _ _ _ _, by simp, rfl, Below.refl _ _⟩
  case round =>
    obtain ⟨cs, p, hp, rfl, hcs, hown, hci, hget, hnx⟩ := hrel
    have hrd : Rd wr B A (cells l) := h.below (hnx.mono hB)
    have hgs := dget_eq N cs (l.drop p)
    obtain ⟨cl, hcl⟩ : ∃ x, x = cs.length := ⟨_, rfl⟩
    rw [← hcl] at hown hcs hgs
    have HCL := Lib.hid hcl
    clear hcl
    obtain ⟨A6, c6, rfl, hc6⟩ := own_form hown
    have HG := Lib.hid hget
    have HI := Lib.hid hci
    have HD := Lib.hid hgs
    clear hget hci hgs
    by_cases hlt : cl < N
    · have HD1 : Hid (dget N cs (l.drop p) = if l.drop p = [] then ([], 20)
          else if (vget (l.drop p)).2.2 ≠ 0 then ([], (vget (l.drop p)).2.2)
          else if (vget (l.drop p)).1 = 0 ∨ N - cl < (vget (l.drop p)).1 then ([], 21)
          else if (vget ((l.drop p).drop (vget (l.drop p)).2.1)).2.2 ≠ 0 then ([], (vget ((l.drop p).drop (vget (l.drop p)).2.1)).2.2)
          else if cs ≠ [] ∧ cs.getLast? = some (zag (vget ((l.drop p).drop (vget (l.drop p)).2.1)).1) then ([], 21)
          else dget N (cs ++ List.replicate (vget (l.drop p)).1 (zag (vget ((l.drop p).drop (vget (l.drop p)).2.1)).1)) ((l.drop p).drop ((vget (l.drop p)).2.1 + (vget ((l.drop p).drop (vget (l.drop p)).2.1)).2.1))) := by
        have := HD.out; rw [if_pos hlt] at this; exact this
      clear HD
      by_cases hpl : p = l.length
      · have hr : l.drop p = [] := by rw [hpl, List.drop_length]
        have he : iget l N = ([], 20) := by rw [iget_of hN (HG.out.trans (HD1.out.trans (if_pos hr)))]; rfl
        have HE := Lib.hid he
        have hpI : ((p : Int) == (l.length : Int)) = true := by simp; omega
        clear he HD1 HG hr hpl
        go_wp2_with fail
        go_ret2
        exact retI_err HE.out hnx
      · have hrne : l.drop p ≠ [] := by
          intro e
          have := congrArg List.length e
          rw [List.length_drop, List.length_nil] at this; omega
        have hpI : ((p : Int) == (l.length : Int)) = false := by simp; omega
        go_wp2_with (refine wpList_from 35 33 34 l p rfl rfl rfl hc rfl hp hrd ?_; intro A1 k1 r HR hrd1 hrc)
        have hrl : r.length ≤ l.length := by rw [HR.out, List.length_drop]; omega
        rw [← HR.out] at HD1 hrne HG
        have G1 := rGet_any B A1 k1 r wr hrd1 (by omega)
        have gb := vget_val r
        have HD2 : Hid (dget N cs r = if (vget r).2.2 ≠ 0 then ([], (vget r).2.2)
            else if (vget r).1 = 0 ∨ N - cl < (vget r).1 then ([], 21)
            else if (vget (r.drop (vget r).2.1)).2.2 ≠ 0 then ([], (vget (r.drop (vget r).2.1)).2.2)
            else if cs ≠ [] ∧ cs.getLast? = some (zag (vget (r.drop (vget r).2.1)).1) then ([], 21)
            else dget N (cs ++ List.replicate (vget r).1 (zag (vget (r.drop (vget r).2.1)).1)) (r.drop ((vget r).2.1 + (vget (r.drop (vget r).2.1)).2.1))) := by
          have := HD1.out; rw [if_neg hrne] at this; exact this
        clear HD1 hrne hpl
        unfold tri at G1
        generalize vget r = g1 at *
        obtain ⟨mm, u, er⟩ := g1
        dsimp only at HD2 G1 gb
        obtain ⟨gb1, gb2, gb3⟩ := gb
        have K1 := Lib.hid G1
        clear G1
        by_cases her : er = 0
        case neg =>
          have he : iget l N = ([], er) := by rw [iget_of hN (HG.out.trans (HD2.out.trans (if_pos her)))]; rfl
          have HE := Lib.hid he
          have herI : ((er : Int) != 0) = true := by simpa using her
          clear he HD2 HG her
          refine K1.out.mono ?_; rintro e w1 ⟨rfl, rfl⟩
          go_wp2_with fail
          go_ret2
          exact retI_err HE.out hnx
        subst her
        by_cases hm0 : mm = 0
        · have he : iget l N = ([], 21) := by rw [iget_of hN (HG.out.trans (HD2.out.trans ((if_neg (by simp)).trans (if_pos (.inl hm0)))))]; rfl
          have HE := Lib.hid he
          subst hm0
          clear he HD2 HG
          refine K1.out.mono ?_; rintro e w1 ⟨rfl, rfl⟩
          go_wp2_with fail
          go_ret2
          exact retI_err HE.out hnx
        have hm0I : ((mm : Int) == 0) = false := by simp; omega
        by_cases hmb : N - cl < mm
        · have he : iget l N = ([], 21) := by rw [iget_of hN (HG.out.trans (HD2.out.trans ((if_neg (by simp)).trans (if_pos (.inr hmb)))))]; rfl
          have HE := Lib.hid he
          have hmbI : (N : Int) - (cl : Int) < (mm : Int) := by omega
          clear he HD2 HG hm0
          refine K1.out.mono ?_; rintro e w1 ⟨rfl, rfl⟩
          go_wp2_with fail
          go_ret2
          exact retI_err HE.out hnx
        have hmbI : (mm : Int) ≤ (N : Int) - (cl : Int) := by omega
        have HD3 : Hid (dget N cs r = if (vget (r.drop u)).2.2 ≠ 0 then ([], (vget (r.drop u)).2.2)
            else if cs ≠ [] ∧ cs.getLast? = some (zag (vget (r.drop u)).1) then ([], 21)
            else dget N (cs ++ List.replicate mm (zag (vget (r.drop u)).1)) (r.drop (u + (vget (r.drop u)).2.1))) := by
          have := HD2.out; rw [if_neg (by simp), if_neg (by omega)] at this; exact this
        have hpu : p + u ≤ l.length := by
          have h1 := congrArg List.length HR.out
          rw [List.length_drop] at h1; omega
        have HQ : Hid (((p : Int) + (u : Int)) = ((p + u : Nat) : Int)) := Lib.hid (by omega)
        clear HD2
        refine K1.out.mono ?_; rintro e w1 ⟨rfl, rfl⟩
        go_wp2_with (refine wpList_from 60 58 59 l (p + u) rfl rfl rfl hc HQ.out hpu hrd ?_; intro A2 k2 r2 HR2 hrd2 hrc2)
        have hr2 : r2 = r.drop u := by rw [HR2.out, HR.out, List.drop_drop]
        have hr2l : r2.length ≤ l.length := by rw [hr2, List.length_drop]; omega
        rw [← hr2] at HD3
        have hdd : ∀ q, r.drop (u + q) = l.drop (p + u + q) := fun q => by rw [HR.out, List.drop_drop, Nat.add_assoc]
        rw [hdd] at HD3
        clear hdd hr2
        have G2 := rGet_any B A2 k2 r2 wr hrd2 (by omega)
        have gb := vget_val r2
        have hq : (vget r2).2.1 ≤ r2.length := gb.2.2
        unfold tri at G2
        generalize vget r2 = g2 at *
        obtain ⟨z, q, er⟩ := g2
        dsimp only at HD3 G2 gb hq
        obtain ⟨gz, gq, _⟩ := gb
        have K2 := Lib.hid G2
        clear G2
        by_cases her : er = 0
        case neg =>
          have he : iget l N = ([], er) := by rw [iget_of hN (HG.out.trans (HD3.out.trans (if_pos her)))]; rfl
          have HE := Lib.hid he
          have herI : ((er : Int) != 0) = true := by simpa using her
          clear he HD3 HG her
          refine K2.out.mono ?_; rintro e w1 ⟨rfl, rfl⟩
          go_wp2_with fail
          go_ret2
          exact retI_err HE.out hnx
        subst her
        have Z1 := fun w => rZag_any z (by omega) (by omega) w
        have HD4 : Hid (dget N cs r = if cs ≠ [] ∧ cs.getLast? = some (zag z) then ([], 21)
            else dget N (cs ++ List.replicate mm (zag z)) (l.drop (p + u + q))) := by
          have := HD3.out; rw [if_neg (by simp)] at this; exact this
        have hzi : i64 (zag z) := zag_bd _ (by omega) (by omega)
        obtain ⟨zz, hzz⟩ : ∃ x, x = zag z := ⟨_, rfl⟩
        rw [← hzz] at Z1 HD4 hzi
        have K3 := Lib.hid Z1
        have HZI := Lib.hid hzi
        clear Z1 HD3 hzz hzi
        have hwz : IntKind.u64.wrap zz = toU zz := wrapU zz
        have huq : p + u + q ≤ l.length := by
          have h1 := congrArg List.length HR2.out
          rw [List.length_drop] at h1; omega
        have hlastc : cl = 0 ∨ ∃ d y g o, cl = d + 1 ∧ cs ≠ [] ∧ cs.getLast? = some y ∧ A6 = some ⟨g, o, none⟩ ∧ wr.cell? ⟨g, o + d, none⟩ = some (.int .u64 (toU y)) := by
          rcases Nat.eq_zero_or_pos cl with h0 | h0
          · exact .inl h0
          · right
            have hl0 : 0 < cs.length := by rw [← HCL.out]; exact h0
            have hne : cs ≠ [] := List.length_pos_iff.1 hl0
            obtain ⟨g, o, hA, hg, hcell⟩ := (rd_own hown).at (k := cl - 1) (by simp [← HCL.out]; omega)
            refine ⟨cl - 1, cs.getLast hne, g, o, by omega, hne, List.getLast?_eq_some_getLast hne, hA, hcell _ _ ?_⟩
            rw [List.getElem?_map, HCL.out, ← List.getLast?_eq_getElem?, List.getLast?_eq_some_getLast hne]; rfl
        obtain ⟨cn, hcn⟩ : ∃ x, x = cl := ⟨_, rfl⟩
        have hcm : cn + mm ≤ N := by omega
        have HCN := Lib.hid hcn
        clear hcn
        by_cases hx : cs ≠ [] ∧ cs.getLast? = some zz
        · have he : iget l N = ([], 21) := by rw [iget_of hN (HG.out.trans (HD4.out.trans (if_pos hx)))]; rfl
          have HE := Lib.hid he
          rcases hlastc with h0 | ⟨d, y, g, o, rfl, hne, hy, rfl, hcell⟩
          · exfalso
            have := HCL.out
            rw [h0] at this
            exact hx.1 (List.eq_nil_of_length_eq_zero this.symm)
          · have hyz : y = zz := by rw [hx.2] at hy; exact (Option.some.inj hy).symm
            subst hyz
            clear he hx hy hne HG HD4 HR HR2
            refine K2.out.mono ?_; rintro e w1 ⟨rfl, rfl⟩
            go_wp2_with (go_at_call 66; refine (K3.out _).mono ?_; rintro e w1 ⟨rfl, rfl⟩)
            go_ret2
            exact retI_err HE.out hnx
        · have HD5 := Lib.hid (HG.out.trans (HD4.out.trans (if_neg hx)))
          rcases hlastc with h0 | ⟨d, y, g, o, rfl, hne, hy, rfl, hcell⟩
          · subst h0
            clear hx HG HD4 HR HR2
            refine K2.out.mono ?_; rintro e w1 ⟨rfl, rfl⟩
            go_wp2_with (go_at_call 66; refine (K3.out _).mono ?_; rintro e w1 ⟨rfl, rfl⟩)
            go_loopw [6, 13] (fun v6 v13 ws => ∃ (k : Nat), k ≤ mm ∧ v13 = .int .u64 k ∧ ws.ownsRow w.heap.size 74 1 v6 (cn + k) (ucells (cs ++ List.replicate k zz)) ∧ Below w.heap.size w ws)
              (fun _ v13 _ => mm - (intOf v13).toNat)
            case atStart => exact ⟨0, Nat.zero_le _, rfl, by rw [HCN.out]; simpa using hown, hnx⟩
            case round =>
              obtain ⟨k, hk, rfl, hown', hnx'⟩ := hrel
              obtain ⟨A7, c7, rfl, hc7⟩ := own_form hown'
              by_cases hkm : k < mm
              · go_wp2_with (at_builtin; refine wpList_app El_u64 rfl _ _ rfl (hown'.alloc _) rfl rfl (by exact rd_one _ _ _ _ _ rfl (Nat.lt_add_one _)) rfl one_int (by unfold maxLen; omega) (by omega) (by have := hnx'.size; simp; omega) ?_; intro v2 w2 hown2 hg2 _)
                have hb2 : Below w.heap.size w w2 := (hnx'.alloc hnx'.size _).trans (own_below (hown'.alloc _) hg2 (by have := hnx'.size; simp; omega))
                go_roundw
                case rel =>
                  refine ⟨k + 1, by omega, by go_num, ?_, hb2⟩
                  rw [rep_succ, ucells_snoc, ← Nat.add_assoc]
                  simpa using hown2
                case measure => simp [intOf]; omega
              · have hkk : k = mm := by omega
                subst hkk
                go_wp2_with fail
                go_roundw
                case rel =>
                  have hln : (cs ++ List.replicate k zz).length = cn + k := by rw [List.length_append, List.length_replicate, ← HCL.out, HCN.out]
                  refine ⟨cs ++ List.replicate k zz, p + u + q, huq, by go_num, by rw [hln]; omega, by rw [hln]; exact hown', fun x hx => ?_, HD5.out, hnx'⟩
                  rcases List.mem_append.1 hx with h1 | h1
                  · exact HI.out x h1
                  · rw [(List.mem_replicate.1 h1).2]; exact HZI.out
                case measure =>
                  have h1 := HCN.out
                  simp [lenOf]; omega
          · have hyz : (toU y == toU zz) = false := by
              simp only [beq_eq_false_iff_ne, ne_eq]
              intro e
              have := u64_inj (HI.out y (List.mem_of_getLast? hy)) HZI.out e
              exact hx ⟨hne, by rw [hy, this]⟩
            clear hx hy hne HG HD4 HR HR2
            refine K2.out.mono ?_; rintro e w1 ⟨rfl, rfl⟩
            go_wp2_with (go_at_call 66; refine (K3.out _).mono ?_; rintro e w1 ⟨rfl, rfl⟩)
            go_loopw [6, 13] (fun v6 v13 ws => ∃ (k : Nat), k ≤ mm ∧ v13 = .int .u64 k ∧ ws.ownsRow w.heap.size 74 1 v6 (cn + k) (ucells (cs ++ List.replicate k zz)) ∧ Below w.heap.size w ws)
              (fun _ v13 _ => mm - (intOf v13).toNat)
            case atStart => exact ⟨0, Nat.zero_le _, rfl, by rw [HCN.out]; simpa using hown, hnx⟩
            case round =>
              obtain ⟨k, hk, rfl, hown', hnx'⟩ := hrel
              obtain ⟨A7, c7, rfl, hc7⟩ := own_form hown'
              by_cases hkm : k < mm
              · go_wp2_with (at_builtin; refine wpList_app El_u64 rfl _ _ rfl (hown'.alloc _) rfl rfl (by exact rd_one _ _ _ _ _ rfl (Nat.lt_add_one _)) rfl one_int (by unfold maxLen; omega) (by omega) (by have := hnx'.size; simp; omega) ?_; intro v2 w2 hown2 hg2 _)
                have hb2 : Below w.heap.size w w2 := (hnx'.alloc hnx'.size _).trans (own_below (hown'.alloc _) hg2 (by have := hnx'.size; simp; omega))
                go_roundw
                case rel =>
                  refine ⟨k + 1, by omega, by go_num, ?_, hb2⟩
                  rw [rep_succ, ucells_snoc, ← Nat.add_assoc]
                  simpa using hown2
                case measure => simp [intOf]; omega
              · have hkk : k = mm := by omega
                subst hkk
                go_wp2_with fail
                go_roundw
                case rel =>
                  have hln : (cs ++ List.replicate k zz).length = cn + k := by rw [List.length_append, List.length_replicate, ← HCL.out, HCN.out]
                  refine ⟨cs ++ List.replicate k zz, p + u + q, huq, by go_num, by rw [hln]; omega, by rw [hln]; exact hown', fun x hx => ?_, HD5.out, hnx'⟩
                  rcases List.mem_append.1 hx with h1 | h1
                  · exact HI.out x h1
                  · rw [(List.mem_replicate.1 h1).2]; exact HZI.out
                case measure =>
                  have h1 := HCN.out
                  simp [lenOf]; omega
    · have hcl : cl = N := by omega
      have HD1 : Hid (dget N cs (l.drop p) = if l.drop p ≠ [] then ([], 21) else (cs, 0)) := by
        have := HD.out; rw [if_neg hlt] at this; exact this
      clear HD
      by_cases hpl : p = l.length
      case neg =>
        have hrne : l.drop p ≠ [] := by
          intro e
          have := congrArg List.length e
          rw [List.length_drop, List.length_nil] at this; omega
        have he : iget l N = ([], 21) := by rw [iget_of hN (HG.out.trans (HD1.out.trans (if_pos hrne)))]; rfl
        have HE := Lib.hid he
        have hpI : ((p : Int) != (l.length : Int)) = true := by simp; omega
        subst hcl
        clear he HD1 HG hrne hpl
        go_wp2_with fail
        go_ret2
        exact retI_err HE.out hnx
      have hr : l.drop p = [] := by rw [hpl, List.drop_length]
      have he : iget l N = (unchg 0 0 cs, 0) := by rw [iget_of hN (HG.out.trans (HD1.out.trans (if_neg (by simp [hr]))))]
      have HE := Lib.hid he
      have hpI : ((p : Int) != (l.length : Int)) = false := by simp; omega
      have hcsN : cs.length = N := by rw [← HCL.out, hcl]
      have HCN := Lib.hid hcsN
      have hrdc : Rd wr wr.heap.size A6 (ucells cs) := rd_own hown
      subst hcl
      clear he HD1 HG hr hpl hcsN
      go_wp2_with fail
      go_loopw [14, 15, 16, 17] (fun v14 v15 v16 v17 ws => ∃ k : Nat, k ≤ cl ∧ v17 = .int .i64 k ∧ ws.ownsRow wr.heap.size 2 1 v14 k (num (unchg 0 0 (cs.take k))) ∧
          v15 = .int .u64 (toU (lst 0 0 (cs.take k)).2) ∧ v16 = .int .u64 (toU (lst 0 0 (cs.take k)).1) ∧ Below wr.heap.size wr ws)
        (fun _ _ _ v17 _ => cl - (intOf v17).toNat)
      case atStart => exact ⟨0, by omega, rfl, World.ownsRow_nil _ _ _ _, rfl, rfl, Below.refl _ _⟩
      case round =>
        obtain ⟨k, hk, rfl, hown', hv15, hv16, hnx'⟩ := hrel
        subst hv15 hv16
        obtain ⟨A7, c7, rfl, hc7⟩ := own_form hown'
        by_cases hkm : k < cl
        · obtain ⟨g, o, rfl, hg, hcell⟩ := hrdc.at (k := k) (by simp [HCN.out]; exact hkm)
          obtain ⟨x, hx⟩ : ∃ x, cs[k]? = some x := ⟨_, List.getElem?_eq_getElem (by rw [HCN.out]; exact hkm)⟩
          have hck := (hnx'.cell (p := ⟨g, o + k, none⟩) hg).trans (hcell k (.int .u64 (toU x)) (by rw [List.getElem?_map, hx]; rfl))
          have hts : cs.take (k + 1) = cs.take k ++ [x] := by
            have h1 : k < cs.length := by rw [HCN.out]; exact hkm
            rw [List.getElem?_eq_getElem h1] at hx
            rw [take_snoc cs k h1, Option.some.inj hx]
          obtain ⟨a, ha⟩ : ∃ y, y = (lst 0 0 (cs.take k)).1 := ⟨_, rfl⟩
          obtain ⟨s, hs⟩ : ∃ y, y = (lst 0 0 (cs.take k)).2 := ⟨_, rfl⟩
          rw [← ha, ← hs]
          have e1 : IntKind.u64.wrap (toU s + toU x) = toU (wrap64 (s + x)) := by rw [wrapU]; exact (lst_u64 a s x).1.symm
          obtain ⟨s', hs'⟩ : ∃ y, y = wrap64 (s + x) := ⟨_, rfl⟩
          have e2 : IntKind.u64.wrap (toU a + toU s') = toU (wrap64 (a + s')) := by rw [wrapU, hs', (lst_u64 a s x).1]; exact (lst_u64 a s x).2.symm
          obtain ⟨a', ha'⟩ : ∃ y, y = wrap64 (a + s') := ⟨_, rfl⟩
          have e3 : wrap64 (toU a') = a' := u64_back (by rw [ha']; exact i64_wrap _)
          rw [← hs'] at e1
          rw [← ha'] at e2
          have hl2 : lst 0 0 (cs.take (k + 1)) = (a', s') := by rw [hts, lst_snoc, ← ha, ← hs, ha', hs']
          have hu2 : unchg 0 0 (cs.take (k + 1)) = unchg 0 0 (cs.take k) ++ [a'] := by rw [hts, unchg_snoc, ← ha, ← hs, ha', hs']
          have HL2 := Lib.hid hl2
          have HU2 := Lib.hid hu2
          clear hl2 hu2 hts hx ha hs hs' ha' hcell
          go_wp2_with (at_builtin; refine wpList_app El_i64 rfl _ _ rfl (hown'.alloc _) rfl rfl (by exact rd_one _ _ _ _ _ rfl (Nat.lt_add_one _)) rfl one_int (by unfold maxLen; omega) (by omega) (by have := hnx'.size; simp; omega) ?_; intro v2 w2 hown2 hg2 _)
          have hb2 : Below _ _ w2 := (hnx'.alloc hnx'.size _).trans (own_below (hown'.alloc _) hg2 (by have := hnx'.size; simp; omega))
          go_roundw
          case rel =>
            refine ⟨k + 1, by omega, by go_num, ?_, by rw [HL2.out], by rw [HL2.out], hb2⟩
            rw [HU2.out]
            simpa [num] using hown2
          case measure => simp [intOf]; omega
        · have hkk : k = cl := by omega
          subst hkk
          have htk : cs.take k = cs := by rw [← HCN.out, List.take_length]
          rw [htk] at hown'
          clear htk
          go_wp2_with fail
          go_ret2
          have hsz := hnx.size
          have hul : (unchg 0 0 cs).length = k := by rw [unchg_length, HCN.out]
          exact retI_ok HE.out (by rw [hul]; exact World.ownsRow.mono hown' hsz) (hnx.trans (hnx'.mono hsz))
end Go.Proofs.Ytiijnfakphhbeaa.In

/- The walk of ints.Get (layer 5): it answers iget. For rows of bytes of at most 2^32. -/
import Derived.Test.YtiijnfakphhbeaaJntP
import Derived.Test.YtiijnfakphhbeaaVrs
namespace Go.Proofs.Ytiijnfakphhbeaa.In
open Go.RowKit
set_option linter.unusedVariables false
set_option linter.unusedSimpArgs false

abbrev num (l : List Int) : List Value := l.map (Value.int .i64)
theorem Try.infoI64 : (Try.prog.info? 2).map (fun i => (i.zero, i.size, i.bytes)) = some (some (.int .i64 0), 1, 8) := by kernel_rfl
theorem El_i64 : El Try.prog 62 2 1 8 := el_of Try.underlying62 Try.infoI64 rfl (by decide)
/-- What a call that answers numbers and an error leaves. -/
def RetI (w : World) (r : List Int × Nat) (e : Ending) (w' : World) : Prop :=
  ∃ A c, e = .returned (.tuple #[.slice A r.1.length c, .int .i64 (r.2 : Int)]) ∧ w'.ownsRow w.heap.size 2 1 (.slice A r.1.length c) r.1.length (num r.1) ∧ Below w.heap.size w w'
theorem retI_err {w w' : World} {r : List Int × Nat} {x : Nat} (h : r = ([], x)) (hb : Below w.heap.size w w') : RetI w r (.returned (.tuple #[.slice none 0 0, .int .i64 (x : Int)])) w' := by
  subst h
  exact ⟨none, 0, rfl, World.ownsRow_nil _ _ _ _, hb⟩
theorem retI_ok {w w' : World} {r : List Int × Nat} {l : List Int} {v : Value} (h : r = (l, 0)) (ho : w'.ownsRow w.heap.size 2 1 v l.length (num l)) (hb : Below w.heap.size w w') : RetI w r (.returned (.tuple #[v, .int .i64 0])) w' := by
  subst h
  obtain ⟨A, c, rfl, _⟩ := own_form ho
  exact ⟨A, c, rfl, ho, hb⟩
theorem iget_of {N : Nat} {l : List UInt8} {x : List Int × Nat} (hN : N ≤ 65536) (h : dget N [] l = x) : iget l N = (unchg 0 0 x.1, x.2) := by
  unfold iget; rw [if_neg (by omega), Int.toNat_natCast, h]
theorem rep_succ (n : Nat) (c : Int) (cs : List Int) : cs ++ List.replicate (n + 1) c = (cs ++ List.replicate n c) ++ [c] := by
  rw [List.replicate_succ', List.append_assoc]

theorem rd_via {B : Nat} {w a b : World} {A : Option Addr} {xs : List Value} (h1 : Below B w a) (h2 : Below B w b) (h : Rd a B A xs) : Rd b B A xs :=
  h.keep fun k o hp => (h2.cell (p := ⟨k, o, none⟩) hp).trans (h1.cell (p := ⟨k, o, none⟩) hp).symm

set_option maxHeartbeats 2000000 in
set_option maxRecDepth 100000 in
theorem Get_ints (B : Nat) (A : Option Addr) (c : Nat) (l : List UInt8) (n : Int) (w : World) (h : Rd w B A (cells l)) (hB : B ≤ w.heap.size) (hc : l.length ≤ c) (hl : l.length ≤ 4294967296) (hn : i64 n) :
    Calls Try.prog 61 #[.slice A l.length c, .int .i64 n] w (RetI w (iget l n)) := by
  unfold i64 at hn
  obtain ⟨hn1, hn2⟩ := hn
  by_cases hneg : n < 0
  · have he : iget l n = ([], 1) := by unfold iget; rw [if_pos (.inl hneg)]
    have HE := Lib.hid he
    clear he
    go_enter Try.func61, Try.ntmps61
    go_wp2_with fail
    go_ret2
    exact retI_err HE.out (Below.refl _ _)
  by_cases hbig : 65536 < n
  · have he : iget l n = ([], 1) := by unfold iget; rw [if_pos (.inr hbig)]
    have HE := Lib.hid he
    clear he
    have hneg' : 0 ≤ n := by omega
    clear hneg
    go_enter Try.func61, Try.ntmps61
    go_wp2_with fail
    go_ret2
    exact retI_err HE.out (Below.refl _ _)
  obtain ⟨N, rfl⟩ := Int.eq_ofNat_of_zero_le (show 0 ≤ n by omega)
  have hN : N ≤ 65536 := by omega
  have hd1 : decide ((N : Int) < 0) = false := by simp
  have hd2 : decide (65536 < (N : Int)) = false := by simp; omega
  clear hneg hbig hn1 hn2
  go_enter Try.func61, Try.ntmps61
  go_wp2_with fail
  go_loopw [0, 6, 7, 8, 9] (fun v0 v6 v7 v8 v9 wr => ∃ (cs : List Int) (r : List UInt8) (A0 : Option Addr) (c0 : Nat) (ch : Int), v0 = .slice A0 r.length c0 ∧ r.length ≤ c0 ∧ r.length ≤ l.length ∧ Rd wr B A0 (cells r) ∧ cs.length ≤ N ∧
      wr.ownsRow w.heap.size 2 1 v6 cs.length (num (unchg 0 0 cs)) ∧ v7 = .int .i64 (lst 0 0 cs).1 ∧ v8 = .int .i64 (lst 0 0 cs).2 ∧ v9 = .int .i64 ch ∧ (cs ≠ [] → cs.getLast? = some ch) ∧ dget N [] l = dget N cs r ∧ Below w.heap.size w wr)
    (fun _ v6 _ _ _ _ => N - lenOf v6)
  case atStart => exact ⟨[], l, A, c, 0, rfl, hc, Nat.le_refl _, h, Nat.zero_le _, World.ownsRow_nil _ _ _ _, rfl, rfl, rfl, by simp, rfl, Below.refl _ _⟩
  case round =>
    obtain ⟨cs, r, A0, c0, ch, rfl, hrc, hrl, hrd, hcs, hown, rfl, rfl, rfl, hlast, hget, hnx⟩ := hrel
    have hgs := dget_eq N cs r
    obtain ⟨cl, hcl⟩ : ∃ x, x = cs.length := ⟨_, rfl⟩
    rw [← hcl] at hown hcs hgs
    have HCL := Lib.hid hcl
    clear hcl
    obtain ⟨A6, c6, rfl, hc6⟩ := own_form hown
    have HG := Lib.hid hget
    have HL := Lib.hid hlast
    obtain ⟨s1, hs1⟩ : ∃ x, x = (lst 0 0 cs).1 := ⟨_, rfl⟩
    obtain ⟨s2, hs2⟩ : ∃ x, x = (lst 0 0 cs).2 := ⟨_, rfl⟩
    rw [← hs1, ← hs2]
    have HS1 := Lib.hid hs1
    have HS2 := Lib.hid hs2
    clear hget hlast hs1 hs2
    have HD := Lib.hid hgs
    clear hgs
    by_cases hlt : cl < N
    · have HD1 : Hid (dget N cs r = if r = [] then ([], 20)
          else if (vget r).2.2 ≠ 0 then ([], (vget r).2.2)
          else if (vget r).1 = 0 ∨ N - cl < (vget r).1 then ([], 21)
          else if (vget (r.drop (vget r).2.1)).2.2 ≠ 0 then ([], (vget (r.drop (vget r).2.1)).2.2)
          else if cs ≠ [] ∧ cs.getLast? = some (zag (vget (r.drop (vget r).2.1)).1) then ([], 21)
          else dget N (cs ++ List.replicate (vget r).1 (zag (vget (r.drop (vget r).2.1)).1)) (r.drop ((vget r).2.1 + (vget (r.drop (vget r).2.1)).2.1))) := by
        have := HD.out; rw [if_pos hlt] at this; exact this
      clear HD
      rcases Nat.eq_zero_or_pos r.length with hr0 | hr0
      · have hr : r = [] := List.eq_nil_of_length_eq_zero hr0
        have he : iget l N = ([], 20) := by rw [iget_of hN (HG.out.trans (HD1.out.trans (if_pos hr)))]; rfl
        have HE := Lib.hid he
        subst hr
        clear he HD1 HG hr0
        go_wp2_with fail
        go_ret2
        exact retI_err HE.out hnx
      · have hrne : r ≠ [] := by rintro rfl; simp at hr0
        have G1 := Get_any B A0 c0 r wr hrd (by omega)
        have gb := vget_val r
        have gok := @vget_ok r
        have HD2 : Hid (dget N cs r = if (vget r).2.2 ≠ 0 then ([], (vget r).2.2)
            else if (vget r).1 = 0 ∨ N - cl < (vget r).1 then ([], 21)
            else if (vget (r.drop (vget r).2.1)).2.2 ≠ 0 then ([], (vget (r.drop (vget r).2.1)).2.2)
            else if cs ≠ [] ∧ cs.getLast? = some (zag (vget (r.drop (vget r).2.1)).1) then ([], 21)
            else dget N (cs ++ List.replicate (vget r).1 (zag (vget (r.drop (vget r).2.1)).1)) (r.drop ((vget r).2.1 + (vget (r.drop (vget r).2.1)).2.1))) := by
          have := HD1.out; rw [if_neg hrne] at this; exact this
        clear HD1 hrne
        unfold tri at G1
        generalize vget r = g1 at *
        obtain ⟨mm, u, er⟩ := g1
        dsimp only at HD2 G1 gb
        obtain ⟨gb1, gb2, gb3⟩ := gb
        have K1 := Lib.hid G1
        clear G1 gok
        by_cases her : er = 0
        case neg =>
          have he : iget l N = ([], er) := by rw [iget_of hN (HG.out.trans (HD2.out.trans (if_pos her)))]; rfl
          have HE := Lib.hid he
          have herI : ((er : Int) != 0) = true := by simpa using her
          clear he HD2 HG her
          go_wp2_with fail
          refine K1.out.mono ?_; rintro e w1 ⟨rfl, rfl⟩
          go_wp2_with fail
          go_ret2
          exact retI_err HE.out hnx
        subst her
        by_cases hm0 : mm = 0
        · have he : iget l N = ([], 21) := by rw [iget_of hN (HG.out.trans (HD2.out.trans ((if_neg (by simp)).trans (if_pos (.inl hm0)))))]; rfl
          have HE := Lib.hid he
          subst hm0
          clear he HD2 HG
          go_wp2_with fail
          refine K1.out.mono ?_; rintro e w1 ⟨rfl, rfl⟩
          go_wp2_with fail
          go_ret2
          exact retI_err HE.out hnx
        have hm0I : ((mm : Int) == 0) = false := by simp; omega
        by_cases hmb : N - cl < mm
        · have he : iget l N = ([], 21) := by rw [iget_of hN (HG.out.trans (HD2.out.trans ((if_neg (by simp)).trans (if_pos (.inr hmb)))))]; rfl
          have HE := Lib.hid he
          have hmbI : (N : Int) - (cl : Int) < (mm : Int) := by omega
          clear he HD2 HG hm0
          go_wp2_with fail
          refine K1.out.mono ?_; rintro e w1 ⟨rfl, rfl⟩
          go_wp2_with fail
          go_ret2
          exact retI_err HE.out hnx
        have hmbI : (mm : Int) ≤ (N : Int) - (cl : Int) := by omega
        have HD3 : Hid (dget N cs r = if (vget (r.drop u)).2.2 ≠ 0 then ([], (vget (r.drop u)).2.2)
            else if cs ≠ [] ∧ cs.getLast? = some (zag (vget (r.drop u)).1) then ([], 21)
            else dget N (cs ++ List.replicate mm (zag (vget (r.drop u)).1)) (r.drop (u + (vget (r.drop u)).2.1))) := by
          have := HD2.out; rw [if_neg (by simp), if_neg (by omega)] at this; exact this
        clear HD2
        go_wp2_with fail
        refine K1.out.mono ?_; rintro e w1 ⟨rfl, rfl⟩
        go_wp2_with (refine wpList_from 53 51 52 r u rfl rfl rfl hrc rfl gb3 hrd ?_; intro A2 c2 r2 HR2 hrd2 hrc2)
        have hr2 := HR2.out
        have hr2l : r2.length ≤ l.length := by rw [hr2, List.length_drop]; omega
        rw [← hr2] at HD3
        have hdd : ∀ q, r.drop (u + q) = r2.drop q := fun q => by rw [hr2, List.drop_drop]
        rw [hdd] at HD3
        have HDD := Lib.hid hdd
        clear hdd hr2
        have G2 := Get_any B A2 c2 r2 wr hrd2 (by omega)
        have gb := vget_val r2
        have hq : (vget r2).2.1 ≤ r2.length := gb.2.2
        unfold tri at G2
        generalize vget r2 = g2 at *
        obtain ⟨z, q, er⟩ := g2
        dsimp only at HD3 G2 gb hq
        obtain ⟨gz, gq, _⟩ := gb
        have K2 := Lib.hid G2
        clear G2
        by_cases her : er = 0
        case neg =>
          have he : iget l N = ([], er) := by rw [iget_of hN (HG.out.trans (HD3.out.trans (if_pos her)))]; rfl
          have HE := Lib.hid he
          have herI : ((er : Int) != 0) = true := by simpa using her
          clear he HD3 HG her
          refine K2.out.mono ?_; rintro e w1 ⟨rfl, rfl⟩
          go_wp2_with fail
          go_ret2
          exact retI_err HE.out hnx
        subst her
        have Z1 := fun w => Zag_any z (by omega) (by omega) w
        have HD4 : Hid (dget N cs r = if cs ≠ [] ∧ cs.getLast? = some (zag z) then ([], 21)
            else dget N (cs ++ List.replicate mm (zag z)) (r2.drop q)) := by
          have := HD3.out; rw [if_neg (by simp)] at this; exact this
        obtain ⟨zz, hzz⟩ : ∃ x, x = zag z := ⟨_, rfl⟩
        rw [← hzz] at Z1 HD4
        have K3 := Lib.hid Z1
        clear Z1 HD3 hzz
        have herr : ∀ wx, Below w.heap.size w wx → cs ≠ [] ∧ cs.getLast? = some zz → RetI w (iget l N) (.returned (.tuple #[.slice none 0 0, .int .i64 21])) wx := fun wx hb hx => by
          refine retI_err (x := 21) ?_ hb
          rw [iget_of hN (HG.out.trans (HD4.out.trans (if_pos hx)))]; rfl
        have HERR := Lib.hid herr
        clear herr
        have HQ : Hid (((u : Int) + (q : Int)) = ((u + q : Nat) : Int)) := Lib.hid (by omega)
        have huq : u + q ≤ r.length := by
          have h1 := congrArg List.length HR2.out
          rw [List.length_drop] at h1; omega
        by_cases hx : cs ≠ [] ∧ cs.getLast? = some zz
        · have hzc : zz = ch := by
            have := HL.out hx.1
            rw [hx.2] at this; exact Option.some.inj this
          have hE := fun wx hb => HERR.out wx hb hx
          have hc0 : 0 < cl := by rw [HCL.out]; exact List.length_pos_iff.2 hx.1
          have HE := Lib.hid hE
          subst hzc
          clear hE hx HL HERR HG HD4 HDD HR2
          go_wp2_with fail
          refine K2.out.mono ?_; rintro e w1 ⟨rfl, rfl⟩
          go_wp2_with (go_at_call 69; refine (K3.out _).mono ?_; rintro e w1 ⟨rfl, rfl⟩)
          go_ret2
          exact HE.out _ hnx
        · have hD5 : dget N cs r = dget N (cs ++ List.replicate mm zz) (r2.drop q) := HD4.out.trans (if_neg hx)
          rw [← HDD.out q] at hD5
          have HD5 := Lib.hid (HG.out.trans hD5)
          have hcase : (cl = 0) ∨ (0 < cl ∧ (zz == ch) = false) := by
            rcases Nat.eq_zero_or_pos cl with h0 | h0
            · exact .inl h0
            · refine .inr ⟨h0, ?_⟩
              have hne : cs ≠ [] := List.length_pos_iff.1 (by rw [← HCL.out]; exact h0)
              have h1 := HL.out hne
              simp only [beq_eq_false_iff_ne, ne_eq]
              rintro rfl
              exact hx ⟨hne, h1⟩
          clear hx HL HERR HG HD4 HDD HR2 hD5
          obtain ⟨cn, hcn⟩ : ∃ x, x = cl := ⟨_, rfl⟩
          have hcm : cn + mm ≤ N := by omega
          have HCN := Lib.hid hcn
          clear hcn
          rcases hcase with hc0 | ⟨hc0, hzc⟩
          all_goals
            try subst hc0
            go_wp2_with fail
            refine K2.out.mono ?_; rintro e w1 ⟨rfl, rfl⟩
            go_wp2_with (first
              | (go_at_call 69; refine (K3.out _).mono ?_; rintro e w1 ⟨rfl, rfl⟩)
              | (refine wpList_from 76 72 75 r (u + q) rfl rfl rfl hrc HQ.out huq hrd ?_; intro A3 c3 r3 HR3 hrd3 hrc3))
            go_loopw [6, 7, 8, 80] (fun v6 v7 v8 v80 ws => ∃ (k : Nat), k ≤ mm ∧ v80 = .int .u64 k ∧ ws.ownsRow w.heap.size 2 1 v6 (cn + k) (num (unchg 0 0 (cs ++ List.replicate k zz))) ∧
                v7 = .int .i64 (lst 0 0 (cs ++ List.replicate k zz)).1 ∧ v8 = .int .i64 (lst 0 0 (cs ++ List.replicate k zz)).2 ∧ Below w.heap.size w ws)
              (fun _ _ _ v80 _ => mm - (intOf v80).toNat)
            case atStart => exact ⟨0, Nat.zero_le _, rfl, by rw [HCN.out]; simpa using hown, by simp [HS1.out], by simp [HS2.out], hnx⟩
            case round =>
              obtain ⟨k, hk, rfl, hown', hv7, hv8, hnx'⟩ := hrel
              subst hv7 hv8
              obtain ⟨A7, c7, rfl, hc7⟩ := own_form hown'
              obtain ⟨t1, ht1⟩ : ∃ x, x = (lst 0 0 (cs ++ List.replicate k zz)).1 := ⟨_, rfl⟩
              obtain ⟨t2, ht2⟩ : ∃ x, x = (lst 0 0 (cs ++ List.replicate k zz)).2 := ⟨_, rfl⟩
              rw [← ht1, ← ht2]
              have HT1 := Lib.hid ht1
              have HT2 := Lib.hid ht2
              clear ht1 ht2
              by_cases hkm : k < mm
              · go_wp2_with (at_builtin; refine wpList_app El_i64 rfl _ _ rfl (hown'.alloc _) rfl rfl (by exact rd_one _ _ _ _ _ rfl (Nat.lt_add_one _)) rfl one_int (by unfold maxLen; omega) (by omega) (by have := hnx'.size; simp; omega) ?_; intro v2 w2 hown2 hg2 _)
                have hb2 : Below w.heap.size w w2 := (hnx'.alloc hnx'.size _).trans (own_below (hown'.alloc _) hg2 (by have := hnx'.size; simp; omega))
                go_roundw
                case rel =>
                  refine ⟨k + 1, by omega, by go_num, ?_, ?_, ?_, hb2⟩
                  · rw [rep_succ, unchg_snoc, ← HT1.out, ← HT2.out]
                    rw [← Nat.add_assoc]
                    simpa [num] using hown2
                  · rw [rep_succ, lst_snoc, ← HT1.out, ← HT2.out]
                  · rw [rep_succ, lst_snoc, ← HT1.out, ← HT2.out]
                case measure => simp [intOf]; omega
              · have hkk : k = mm := by omega
                subst hkk
                go_wp2_with fail
                go_roundw
                case rel =>
                  have hm1 : 1 ≤ k := by omega
                  have hlr := last_rep k zz cs hm1
                  have hln : (cs ++ List.replicate k zz).length = cn + k := by rw [List.length_append, List.length_replicate, ← HCL.out, HCN.out]
                  refine ⟨cs ++ List.replicate k zz, r3, A3, c3, zz, rfl, hrc3, ?_, rd_via (hnx.mono hB) (hnx'.mono hB) hrd3, ?_, ?_, by rw [HT1.out], by rw [HT2.out], rfl, fun _ => hlr.2, ?_, hnx'⟩
                  · rw [HR3.out, List.length_drop]; omega
                  · rw [hln]; omega
                  · rw [hln]; exact hown'
                  · rw [HR3.out]; exact HD5.out
                case measure =>
                  have h1 := HCN.out
                  simp [lenOf]; omega
    · have hcl : cl = N := by omega
      have HD1 : Hid (dget N cs r = if r ≠ [] then ([], 21) else (cs, 0)) := by
        have := HD.out; rw [if_neg hlt] at this; exact this
      clear HD
      rcases Nat.eq_zero_or_pos r.length with hr0 | hr0
      · have hr : r = [] := List.eq_nil_of_length_eq_zero hr0
        have he : iget l N = (unchg 0 0 cs, 0) := by rw [iget_of hN (HG.out.trans (HD1.out.trans (if_neg (by simp [hr]))))]
        have HE := Lib.hid he
        subst hr
        clear he HD1 HG hr0
        have hln : (unchg 0 0 cs).length = N := by rw [unchg_length, ← HCL.out, hcl]
        have HLN := Lib.hid hln
        subst hcl
        clear hln
        go_wp2_with fail
        go_ret2
        exact retI_ok HE.out (by rw [HLN.out]; exact hown) hnx
      · have hrne : r ≠ [] := by rintro rfl; simp at hr0
        have he : iget l N = ([], 21) := by rw [iget_of hN (HG.out.trans (HD1.out.trans (if_pos hrne)))]; rfl
        have HE := Lib.hid he
        subst hcl
        clear he HD1 HG hrne
        go_wp2_with fail
        go_ret2
        exact retI_err HE.out hnx
end Go.Proofs.Ytiijnfakphhbeaa.In

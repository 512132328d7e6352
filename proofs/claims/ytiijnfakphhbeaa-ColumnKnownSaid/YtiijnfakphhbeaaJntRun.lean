/- The walks of ints.runs, its closure, and ints.Put (layer 5): Put answers iput, in new memory. For rows of at most 2^32 numbers. -/
import Derived.Test.YtiijnfakphhbeaaJntP
import Derived.Test.YtiijnfakphhbeaaVrs
import Derived.RangeFuncNested
import Derived.RangeFuncBound
import Derived.RangeFuncCalls
import Derived.RangeFuncLeaves
import Derived.RangeFuncBox
import Derived.Shelf.Abstract
import Derived.Shelf.RegionOpen
import Derived.OwnWalkIn
import Derived.TacticsInMore
import Derived.LoopNIn
import Derived.LoopIn
import Derived.Deep.Onto
namespace Go.Proofs.Ytiijnfakphhbeaa.In
open Go.RowKit Go.Shelf
set_option linter.unusedVariables false
set_option linter.unusedSimpArgs false
attribute [local go_sem] Oper.semAt_some

/-- a run that the loop is handed -/
abbrev Run := { p : Nat × Int // p.1 ≤ 4294967296 ∧ i64 p.2 }
abbrev nums (l : List Int) : List Value := l.map (Value.int .i64)
abbrev raw (l : List Run) : List (Nat × Int) := l.map (·.1)
abbrev allRuns (zs : List Int) : List (Nat × Int) := rl 0 0 (chg 0 0 zs)

set_option maxRecDepth 100000 in
set_option maxHeartbeats 2000000 in
theorem runs1_in (F : Fence) (n : Nat) (hF : F.fn 71) (hro : F.round = none) (hn : 1 ≤ n) (l Bs n₀ : Nat) (A : Option Addr) (cap : Nat) (zs : List Int) (hreach : zs.length ≤ 4294967296) (J Jx : List Run → World → Prop)
    (hY : ∀ pre x W, J pre W → pre.length < (allRuns zs).length → YieldAt F (n - 1) Try.prog l #[.int .i64 (x.1.1 : Int), .int .i64 x.1.2] W fun e W' =>
      (e = .returned (.bool true) ∧ J (pre ++ [x]) W' ∧ Below n₀ W W') ∨ (e = .returned (.bool false) ∧ Jx (pre ++ [x]) W'))
    (W : World) (hBs : W.cell? ⟨Bs, 0, none⟩ = some (.slice A zs.length cap)) (hc : Rd W n₀ A (nums zs)) (h0 : J [] W) :
    CallsIn F n Try.prog 71 #[.func (.yield l) #[] #[], .pointer (some ⟨Bs, 0, none⟩)] W fun e W' => (∃ v, e = .returned v) ∧
      ((∃ ys, raw ys = allRuns zs ∧ J ys W') ∨ (∃ pre, True ∧ Jx pre W')) := by
  refine callsIn_of_wp Try.func71 rfl hF ?_ hro
  simp only [Try.ntmps71, List.size_toArray, List.length_cons, List.length_nil, Nat.reduceAdd, Nat.reduceSub, Array.replicate_succ, Array.replicate_zero, List.push_toArray, List.append_toArray, List.nil_append, List.cons_append]
  gi_wp2
  gi_loopw [3, 4, 5, 6, 13] (fun vn vl vs vc vi wr => ∃ (k m : Nat) (a s ch : Int) (pre : List Run), k ≤ zs.length ∧ m ≤ k ∧ vn = .int .i64 m ∧ vl = .int .i64 a ∧ vs = .int .i64 s ∧ vc = .int .i64 ch ∧ vi = .int .i64 k ∧
      allRuns zs = raw pre ++ rl m ch (chg a s (zs.drop k)) ∧ i64 ch ∧ J pre wr ∧ Below n₀ W wr)
    (fun _ _ _ _ vi _ => zs.length - (intOf vi).toNat)
  case atStart => exact ⟨0, 0, 0, 0, 0, [], Nat.zero_le _, Nat.le_refl _, rfl, rfl, rfl, rfl, rfl, rfl, i64_zero, h0, Below.refl _ _⟩
  case round =>
    obtain ⟨k, m, a, s, ch, pre, hk, hm, rfl, rfl, rfl, rfl, rfl, hR, hch, hJ, hnx⟩ := hrel
    have HR := Lib.hid hR
    have HC := Lib.hid hch
    clear hR hch
    by_cases hlt : k < zs.length
    · obtain ⟨b, o, hA, hb, hcell⟩ := hc.at (k := k) (by simpa using hlt)
      have hck : wr.cell? ⟨b, o + k, none⟩ = some (.int .i64 zs[k]) := (hnx.cell (p := ⟨b, o + k, none⟩) hb).trans (hcell k _ (by simp [hlt]))
      clear hcell
      obtain ⟨x, hx⟩ : ∃ x, x = zs[k] := ⟨_, rfl⟩
      rw [← hx] at hck
      obtain ⟨nw, hnw⟩ : ∃ y, y = wrap64 (x - a) := ⟨_, rfl⟩
      obtain ⟨c, hcc⟩ : ∃ y, y = wrap64 (nw - s) := ⟨_, rfl⟩
      have hci : i64 c := by rw [hcc]; exact i64_wrap _
      have hstep : allRuns zs = raw pre ++ rl m ch (c :: chg x nw (zs.drop (k + 1))) := by
        rw [HR.out, List.drop_eq_getElem_cons hlt, ← hx, hcc, hnw]; rfl
      have HS := Lib.hid hstep
      have HI := Lib.hid hci
      clear hstep hci HR hx
      subst hA
      have hnw' := hnw.symm
      have hcc' := hcc.symm
      clear hnw hcc
      rcases Nat.eq_zero_or_pos m with rfl | hm0
      · gi_wp2
        go_roundw
        case rel => exact ⟨k + 1, 1, x, nw, c, pre, by omega, by omega, rfl, rfl, by first | rfl | rw [hnw'], by first | rfl | rw [hcc'] | rw [hnw', hcc'], by go_num, by rw [HS.out]; simp [rl], HI.out, hJ, hnx⟩
        case measure => simp [intOf]; omega
      · have hmk : m ≤ 4294967296 := by omega
        by_cases hcch : c = ch
        · subst hcch
          gi_wp2
          go_roundw
          case rel => exact ⟨k + 1, m + 1, x, nw, c, pre, by omega, by omega, by go_num, rfl, by first | rfl | rw [hnw'], by first | rfl | rw [hcc'] | rw [hnw', hcc'], by go_num, by rw [HS.out]; simp [rl], HI.out, hJ, hnx⟩
          case measure => simp [intOf]; omega
        · have hlen : pre.length < (allRuns zs).length := by
            have := congrArg List.length HS.out
            rw [rl, if_pos ⟨by omega, hcch⟩] at this
            simp only [List.length_append, List.length_map, List.length_cons] at this
            omega
          obtain ⟨fn, tmps, assign, body, hy, hRd⟩ := hY pre ⟨(m, ch), hmk, HC.out⟩ wr hJ hlen
          dsimp only at hy
          have hm0' : 0 < m := hm0
          gi_wp2
          refine hRd.mono ?_
          rintro e W3 (⟨rfl, hJ3, hk3⟩ | ⟨rfl, hJx3⟩)
          · gi_wp2
            go_roundw
            case rel => exact ⟨k + 1, 1, x, nw, c, pre ++ [⟨(m, ch), hmk, HC.out⟩], by omega, by omega, rfl, rfl, rfl, rfl, by go_num, by rw [HS.out, rl, if_pos ⟨by omega, hcch⟩]; simp, HI.out, hJ3, hnx.trans hk3⟩
            case measure => simp [intOf]; omega
          · gi_wp2
            refine bodyPost_ret (results_none rfl _ _ _) rfl ?_
            exact ⟨⟨_, rfl⟩, .inr ⟨_, trivial, hJx3⟩⟩
    · have hkl : k = zs.length := by omega
      have hend : allRuns zs = raw pre ++ rl m ch [] := by
        rw [HR.out, hkl, List.drop_length]; rfl
      have HS := Lib.hid hend
      clear hend HR hkl
      rcases Nat.eq_zero_or_pos m with rfl | hm0
      · gi_wp2
        go_end0
        exact ⟨⟨_, rfl⟩, .inl ⟨pre, by rw [HS.out]; simp [rl], hJ⟩⟩
      · have hmk : m ≤ 4294967296 := by omega
        have hlen : pre.length < (allRuns zs).length := by
          have := congrArg List.length HS.out
          rw [rl, if_neg (by omega)] at this
          simp only [List.length_append, List.length_map, List.length_cons] at this
          omega
        obtain ⟨fn, tmps, assign, body, hy, hRd⟩ := hY pre ⟨(m, ch), hmk, HC.out⟩ wr hJ hlen
        dsimp only at hy
        gi_wp2
        refine hRd.mono ?_
        rintro e W3 (⟨rfl, hJ3, hk3⟩ | ⟨rfl, hJx3⟩)
        · gi_wp2
          go_end0
          exact ⟨⟨_, rfl⟩, .inl ⟨_, by rw [HS.out, rl, if_neg (by omega)]; simp, hJ3⟩⟩
        · gi_wp2
          go_end0
          exact ⟨⟨_, rfl⟩, .inr ⟨_, trivial, hJx3⟩⟩

set_option maxHeartbeats 1000000 in
theorem runs_in (F : Fence) (n : Nat) (hF : F.fn 67) (hro : F.round = none) (a : Option Addr) (len cap : Nat) (w : World) :
    CallsIn F n Try.prog 67 #[.slice a len cap] w fun e w' => e = .returned (.func (.func 71) #[] #[.pointer (some ⟨w.heap.size, 0, none⟩)]) ∧ w' = w.alloc (.cells #[.slice a len cap] 62) := by
  refine callsIn_of_wp Try.func67 rfl hF ?_ hro
  simp only [Try.ntmps67, List.size_toArray, List.length_cons, List.length_nil, Nat.reduceAdd, Nat.reduceSub, Array.replicate_succ, Array.replicate_zero, List.push_toArray, List.append_toArray, List.nil_append, List.cons_append]
  gi_wp2
  go_ret
  exact ⟨rfl, rfl⟩

theorem runs_stops (F : Fence) (n : Nat) (hF : F.fn 71) (hro : F.round = none) (hn : 1 ≤ n) (Bs n₀ : Nat) (A : Option Addr) (cap : Nat) (zs : List Int) (hreach : zs.length ≤ 4294967296) (w : World) (hBs : Bs < w.heap.size) (hn₀ : n₀ ≤ w.heap.size)
    (hc : w.cell? ⟨Bs, 0, none⟩ = some (.slice A zs.length cap)) (hI : Rd w n₀ A (nums zs)) :
    SeqStopsK F n Try.prog 71 #[.pointer (some ⟨Bs, 0, none⟩)] (fun x : Run => #[Value.int .i64 (x.1.1 : Int), Value.int .i64 x.1.2]) (Below n₀) (fun ys => raw ys = allRuns zs) (fun _ => True) (allRuns zs).length w := fun l J Jx W hW _ _ hY h0 =>
  runs1_in F n hF hro hn l Bs n₀ A cap zs hreach J Jx hY W ((hW.cell (p := ⟨Bs, 0, none⟩) hBs).trans hc) (hI.below (hW.mono hn₀)) h0

theorem keepsFrom_of_below {B : Nat} {W W1 : World} (h : Below W.heap.size W W1) : KeepsFrom B W W1 :=
  ⟨h.size, fun k o _ hk _ => (h.block k (Array.getElem?_eq_some_iff.1 hk).1).trans hk⟩
theorem boxed_below {W W1 : World} {B : Nat} {t : TypeId} {v : Value} (h : Boxed W B t v) (hb : Below W.heap.size W W1) : Boxed W1 B t v := (hb.block B h.lt).trans h
theorem enc1_length {p : Nat × Int} (h : p.1 ≤ 4294967296 ∧ i64 p.2) : (enc1 p).length ≤ 20 := by
  have h1 := vput_length64 (show p.1 < 18446744073709551616 by omega)
  have h2 := vput_length64 (zig_nat h.2).1
  unfold enc1; rw [List.length_append]; omega
theorem encs_length : ∀ pre : List Run, ((raw pre).flatMap enc1).length ≤ 20 * pre.length
  | [] => by simp
  | x :: pre => by
    have h1 := enc1_length x.2
    have h2 := encs_length pre
    simp only [raw, List.map_cons, List.flatMap_cons, List.length_append, List.length_cons] at h2 ⊢
    omega
theorem rl_length : ∀ (l : List Int) (n : Nat) (ch : Int), (rl n ch l).length ≤ l.length + 1
  | [], n, ch => by unfold rl; split <;> simp
  | c :: l, n, ch => by
    unfold rl; split
    · have := rl_length l 1 c; simp; omega
    · have := rl_length l (n + 1) c; simp; omega
theorem iput_length (zs : List Int) (h : zs.length ≤ 4294967296) : (iput zs).length ≤ 20 * (zs.length + 1) := by
  have hb : ∀ p ∈ allRuns zs, (enc1 p).length ≤ 20 := fun p hp => by
    have h1 := rl_count _ _ _ p hp
    have h2 := rl_val _ 0 0 (chg_i64 zs 0 0) (by simp) p hp
    rw [chg_length] at h1
    exact enc1_length ⟨by omega, h2⟩
  have hl : (allRuns zs).length ≤ zs.length + 1 := by have := rl_length (chg 0 0 zs) 0 0; rw [chg_length] at this; exact this
  have e : ∀ R : List (Nat × Int), (∀ p ∈ R, (enc1 p).length ≤ 20) → (R.flatMap enc1).length ≤ 20 * R.length := by
    intro R
    induction R with
    | nil => simp
    | cons p R ih =>
      intro h
      have h1 := h p (List.mem_cons_self ..)
      have h2 := ih fun x hx => h x (List.mem_cons_of_mem _ hx)
      simp only [List.flatMap_cons, List.length_append, List.length_cons]; omega
  have := e _ hb
  unfold iput
  unfold allRuns at this hl
  omega

set_option maxRecDepth 100000 in
set_option maxHeartbeats 2000000 in
theorem Put_ints (A : Option Addr) (cap : Nat) (zs : List Int) (hl : zs.length ≤ 65536) (w : World) (hI : Rd w w.heap.size A (nums zs)) :
    Calls Try.prog 60 #[.slice A zs.length cap] w (RetB w (iput zs)) := by
  have hN : (allRuns zs).length ≤ 65537 := by have := rl_length (chg 0 0 zs) 0 0; rw [chg_length] at this; unfold allRuns; omega
  refine (callsIn_wide (n := 3)).1 ?_
  refine callsIn_of_wp_marks Try.func60 rfl trivial ?_ rfl
  simp only [Try.ntmps60, List.size_toArray, List.length_cons, List.length_nil, Nat.reduceAdd, Nat.reduceSub, Array.replicate_succ, Array.replicate_zero, List.push_toArray, List.append_toArray, List.nil_append, List.cons_append]
  gi_wp2_with (refine ⟨trivial, ?_⟩; gi_at_call 67; refine (runs_in Fence.wide _ trivial rfl _ _ _ _).mono ?_; rintro e w' ⟨rfl, rfl⟩)
  have bO := Boxed.new w 24 (.slice none 0 0)
  have bN := Boxed.new (w.alloc (.cells #[.slice none 0 0] 24)) 62 (.slice A zs.length cap)
  rw [World.size_alloc] at bN
  have hB0 : Below w.heap.size w ((w.alloc (.cells #[.slice none 0 0] 24)).alloc (.cells #[.slice A zs.length cap] 62)) := ((Below.refl _ w).alloc (Nat.le_refl _) _).alloc (by simp) _
  refine wpIn_rangeFunc_ownG rfl (by omega) (gf := 71) (lb := #[.pointer (some ⟨w.heap.size + 1, 0, none⟩)]) rfl trivial (enters_of Try.func71 (by kernel_rfl) rfl)
    (runs_stops Fence.wide _ trivial rfl (by omega) (w.heap.size + 1) w.heap.size A cap zs (by omega) _ (by simp) (by simp; omega) bN.cell (hI.below hB0)) belowK_t (belowK_b (by simp; omega)) (Below.refl _ _) (fun _ => rfl)
    (fun pre W => (∃ v, Boxed W w.heap.size 24 v ∧ W.ownsRow w.heap.size 5 1 v ((raw pre).flatMap enc1).length (cells ((raw pre).flatMap enc1)) ∧ True) ∧ Below w.heap.size w W)
    (fun _ _ _ => False)
    (OwnFrom.and (Own.from (holdsRow_own w.heap.size w.heap.size 24 5 1 (fun pre => ((raw pre).flatMap enc1).length) (fun pre => cells ((raw pre).flatMap enc1)) (fun _ _ => True)) _) (ownFrom_below (Nat.le_refl _) (by simp; omega)))
    (fun _ _ _ _ _ hs _ _ => hs)
    ⟨⟨_, bO.alloc _, World.ownsRow_nil _ _ _ _, trivial⟩, hB0⟩
    (fun x => { tmps := #[.slice A zs.length cap, undef, .slice none 0 0, .pointer (some ⟨w.heap.size, 0, none⟩), .int .i64 x.1.1, .int .i64 x.1.2, .slice A zs.length cap, .func (.func 71) #[] #[.pointer (some ⟨w.heap.size + 1, 0, none⟩)], .int .i64 x.1.1, .int .i64 x.1.2, undef, undef, undef, undef, undef, undef, undef, undef], defers := [] }) ?assign ?body ?done ?stop
  case assign =>
    intro l x W K hK
    gi_wp2
    exact hK
  case body =>
    rintro l pre x W ⟨⟨v, hv, hrow, _⟩, hB⟩ hlt
    have hel := encs_length pre
    have hraw : (raw (pre ++ [x])).flatMap enc1 = (raw pre).flatMap enc1 ++ (vput x.1.1 ++ vput (zig x.1.2).toNat) := by simp [raw, enc1]
    obtain ⟨bs, hbs⟩ : ∃ bs, bs = (raw pre).flatMap enc1 := ⟨_, rfl⟩
    rw [← hbs] at hrow hel hraw
    clear hbs
    obtain ⟨A1, c1, rfl, hc1⟩ := own_form hrow
    have hc := hv.cell
    have hrd := rd_own hrow
    obtain ⟨⟨m, ch⟩, hm, hch⟩ := x
    dsimp only at hm hch ⊢
    have hz := zig_nat hch
    have hlm := vput_length64 (show m < 18446744073709551616 by omega)
    have P1 := Put_any W.heap.size A1 c1 bs m (by omega) W hrd (by omega)
    have Z1 := fun w => Zig_any ch hch.1 hch.2 w
    rw [← hz.2] at Z1
    obtain ⟨z, hzz⟩ : ∃ z, z = (zig ch).toNat := ⟨_, rfl⟩
    dsimp only at hraw
    rw [← hzz] at Z1 hz hraw
    have HR := Lib.hid hraw
    clear hraw
    obtain ⟨bm, hbm⟩ : ∃ bm, bm = bs ++ vput m := ⟨_, rfl⟩
    rw [← hbm] at P1
    have hbl : bm.length ≤ bs.length + 10 := by rw [hbm, List.length_append]; omega
    have HP := Lib.hid P1
    have HZ := Lib.hid Z1
    have HH := Lib.hid hz.1
    have HM := Lib.hid hbm
    clear P1 Z1 hzz hz hbm
    gi_wp2_with fail
    refine ⟨trivial, ?_⟩
    refine (CallsIn.inRound l (callsIn_wide.2 HP.out)).mono ?_; rintro e W1 ⟨A2, c2, rfl, hown2, hb2⟩
    have hz1 := hb2.size
    have hv1 := boxed_below hv hb2
    have hrd2 := rd_own hown2
    have P2 := Put_any W1.heap.size A2 c2 bm z HH.out W1 hrd2 (by omega)
    obtain ⟨bz, hbz⟩ : ∃ bz, bz = bm ++ vput z := ⟨_, rfl⟩
    rw [← hbz] at P2
    have HP2 := Lib.hid P2
    have HB := Lib.hid hbz
    clear P2 hbz
    gi_wp2_with fail
    refine ⟨trivial, ?_⟩
    refine (CallsIn.inRound l (callsIn_wide.2 (HZ.out _))).mono ?_; rintro e W1' ⟨rfl, rfl⟩
    gi_wp2_with fail
    refine ⟨trivial, ?_⟩
    refine (CallsIn.inRound l (callsIn_wide.2 HP2.out)).mono ?_; rintro e W2 ⟨A3, c3, rfl, hown3, hb3⟩
    have hv2 := boxed_below hv1 hb3
    have hb4 : Below W.heap.size W W2 := hb2.trans (hb3.mono hz1)
    have hc2 := hv2.cell
    have hf2 := hv2.frozen
    have hown4 := hown3.mono (base' := w.heap.size) (by have := hB.size; omega)
    have hne := (hv2.not_row (by decide) hown4).symm
    have hbB : Below w.heap.size W W2 := hb4.mono hB.size
    have heq : bz = bs ++ (vput m ++ vput z) := by rw [HB.out, HM.out, List.append_assoc]
    have HE := Lib.hid heq
    clear heq
    gi_wp2_with fail
    refine ⟨(keepsFrom_of_below hb4).trans ((KeepsOthers.setCell _ _ _).from _), hbB.setCell (p := ⟨w.heap.size, 0, none⟩) (Nat.le_refl _) _, ⟨_, hv2.set _, ?_, trivial⟩, (hB.trans hbB).setCell (p := ⟨w.heap.size, 0, none⟩) (Nat.le_refl _) _⟩
    rw [HR.out, ← HE.out]
    exact hown4.kept (grownBy_setCell' W2 w.heap.size _) (.inr hne)
  case done =>
    rintro D ys W hD hys ⟨⟨v, hv, hrow, _⟩, hB⟩ hK
    have hc := hv.cell
    rw [hys] at hrow
    gi_wp2
    refine ⟨by simp, .inl ⟨_, _, rfl, run_takeDeferred hK, ?_⟩⟩
    exact ⟨_, results_tmp rfl _ _ _, retB_of (ownsRow_putObj hrow _ hK rfl) (hB.trans (belowK_b (w := w) (Nat.le_refl _) W D _ _ (by simp at hD; omega) hK rfl rfl))⟩
  case stop =>
    rintro D c pre W _ _ h _
    exact h.elim
end Go.Proofs.Ytiijnfakphhbeaa.In

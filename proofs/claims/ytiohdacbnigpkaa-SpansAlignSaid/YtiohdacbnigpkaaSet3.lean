/- The walk of slices.DeleteFunc(.., span.Empty) over spans of the call's own (layer 10): what is left lies in the same memory. For at most 10^9 spans. -/
import Derived.Test.YtiohdacbnigpkaaSet2
namespace Go.Proofs.Ytiohdacbnigpkaa
open Go.RowKit Go.Maps
set_option linter.unusedVariables false
set_option linter.unusedSimpArgs false

theorem scells_rep (v : S2) (n : Nat) (cs : Array Value) (hcs : cs.toList = sc v) : (madeCells cs (n * 2)).toList = scells (List.replicate n v) := by
  have h3 : cs.size = 2 := by rw [← Array.length_toList, hcs]; rfl
  apply List.ext_getElem?
  intro j
  rw [scells_get, List.getElem?_replicate]
  by_cases hj : j < n * 2
  · rw [if_pos (by omega)]
    have hm : j % 2 < 2 := Nat.mod_lt _ (by omega)
    have hget : cs[j % 2]? = (sc v)[j % 2]? := by rw [← Array.getElem?_toList, hcs]
    simp only [madeCells, Array.toList_map, Array.toList_range, List.getElem?_map, h3]
    rw [List.getElem?_range hj]
    simp only [Option.map_some, Option.bind_some, ← hget]
    rw [Array.getElem?_eq_getElem (by omega)]
    simp [getElem!_pos, h3, hm]
  · rw [if_neg (by omega)]
    simp [madeCells, hj]
theorem zeroCells_span (n : Nat) : (Builtin.zeroCells (Value.agg #[.int .i64 0, .int .i64 0]).cells n).toList = scells (List.replicate n (0, 0)) := by
  have h := scells_rep (0, 0) n (Value.agg #[.int .i64 0, .int .i64 0]).cells rfl
  rw [← h]
  unfold Builtin.zeroCells madeCells
  rfl
def emptyS (s : S2) : Bool := decide (s.2 ≤ s.1)
theorem emptyS_any (s : S2) (w : World) : Calls Try.prog 43 #[sa s] w fun e w' => e = .returned (.bool (emptyS s)) ∧ Below w.heap.size w w' := empty_any s.1 s.2 w
theorem full_emptyS (s : S2) : decide (s.1 < s.2) = !emptyS s := by
  unfold emptyS
  by_cases h : s.1 < s.2
  · rw [decide_eq_true h, decide_eq_false (by omega)]; rfl
  · rw [decide_eq_false h, decide_eq_true (by omega)]; rfl
theorem from_spans (A : Option Addr) (n c u : Nat) (hu : u ≤ n) (w : World) (z : Int) (hz : z = u) :
    (Instr.sliceAt 22 (.slice A n c) (some (.int .i64 z)) none none).run Try.prog w = .ok (.slice (if c = u then A else A.map (·.add (u * 2))) (n - u) (c - u)) w := by
  obtain ⟨by_, hinfo, hby⟩ := Try.infoSpan
  obtain ⟨i0, hi, hz0, hz1, hz2⟩ := info_parts hinfo
  subst hz
  simp [Instr.sliceAt, Instr.slice, run_underlying Try.underlying22, Instr.sliceBounds, run_sliceBound, sizeOf, typeInfo, hi, hz1, (by omega : (0 : Int) ≤ (u : Int)), (by omega : (u : Int) ≤ (n : Int))]
theorem upto_spans {A : Option Addr} {n c : Nat} (m : Nat) (hm : m ≤ n) (hc : n ≤ c) (w' : World) (z : Int) (hz : z = m) :
    (Instr.sliceAt 22 (.slice A n c) none (some (.int .i64 z)) none).run Try.prog w' = .ok (.slice A m c) w' := by
  obtain ⟨by_, hinfo, hby⟩ := Try.infoSpan
  obtain ⟨i0, hi, hz0, hz1, hz2⟩ := info_parts hinfo
  subst hz
  simp [Instr.sliceAt, Instr.slice, run_underlying Try.underlying22, Instr.sliceBounds, run_sliceBound, sizeOf, typeInfo, hi, hz1, (by omega : (0 : Int) ≤ (m : Int)), (by omega : (m : Int) ≤ (c : Int))]
  intro _
  cases A <;> simp [Addr.add]
theorem run_clear_own {w : World} {base g n cap : Nat} {l : List S2} (h : w.ownsRow base 27 2 (.slice (some ⟨g, 0, none⟩) n cap) n (scells l)) (i : Nat) (hi : i ≤ n) (ty : TypeId) :
    ∃ w', (Builtin.clear_ #[22] ty #[.slice (if cap = i then some ⟨g, 0, none⟩ else (some (⟨g, 0, none⟩ : Addr)).map (·.add (i * 2))) (n - i) (cap - i)]).run Try.prog w = .ok (.tuple #[]) w' ∧
      w'.ownsRow base 27 2 (.slice (some ⟨g, 0, none⟩) n cap) n (scells (l.take i ++ List.replicate (n - i) (0, 0))) ∧ w.grownBy w' (some g) := by
  obtain ⟨by_, hinfo, hby⟩ := Try.infoSpan
  obtain ⟨i0, hi0, hz0, hz1, hz2⟩ := info_parts hinfo
  have hll : l.length = n := by have := h.1; rw [scells_length] at this; omega
  rcases h.2 with ⟨hv, _⟩ | ⟨g', cap', cur, hv, hbg, hh, hnc, hcm, hcs, htake⟩
  · cases hv
  simp only [Value.slice.injEq, Option.some.injEq, Addr.mk.injEq, and_true, true_and] at hv
  obtain ⟨rfl, rfl⟩ := hv
  by_cases hin : i = n
  · refine ⟨w, ?_, ?_, World.grownBy.refl w _⟩
    · have h0 : n - i = 0 := by omega
      rw [h0]
      split <;> simp [Builtin.clear_, run_underlying Try.underlying22]
    · rw [show n - i = 0 by omega, List.replicate_zero, List.append_nil, List.take_of_length_le (by omega)]
      exact h
  · have hci : ¬ cap = i := by omega
    obtain ⟨m, hm⟩ : ∃ m, n - i = m + 1 := ⟨n - i - 1, by omega⟩
    have hzc := zeroCells_span (m + 1)
    have hzl : (scells (List.replicate (m + 1) (0, 0))).length = (m + 1) * 2 := by rw [scells_length, List.length_replicate]
    have hst := run_storeCells_at Try.prog g (i * 2) 27 (scells (List.replicate (m + 1) (0, 0))) 0 cur w hh (by rw [hzl, hcs]; omega) (scells_one _)
    have hzv : ∀ w, (zeroValue 27).run Try.prog w = .ok (.agg #[.int .i64 0, .int .i64 0]) w := fun w => by simp [zeroValue, typeInfo, hi0, hz0]
    have hadd : ((⟨g, 0, none⟩ : Addr).add (i * 2)) = ⟨g, i * 2, none⟩ := by unfold Addr.add; split <;> simp_all
    refine ⟨w.setRow g (cur.toList.take (i * 2 + 0) ++ scells (List.replicate (m + 1) (0, 0)) ++ cur.toList.drop (i * 2 + 0 + (scells (List.replicate (m + 1) (0, 0))).length)).toArray, ?_, ⟨?_, .inr ⟨g, cap, _, rfl, hbg, setRow_heap w g cur _ _ _ hh, hnc, hcm, ?_, ?_⟩⟩, ⟨rfl, rfl, rfl, by simp, fun k _ hk => setRow_other w g k _ (fun e => hk (by simp [e]))⟩⟩
    · rw [if_neg hci, hm]
      simp only [Option.map_some, hadd]
      simp [Builtin.clear_, run_underlying Try.underlying22, hzv]
      rw [hzc, hst]
      simp [Result.andThen, List.append_assoc]
    · rw [scells_length, List.length_append, List.length_take, List.length_replicate]; omega
    · simp only [List.size_toArray, List.length_append, List.length_take, List.length_drop, Array.length_toList, hzl]
      omega
    · rw [hm, scells_append]
      have h1 : scells (l.take i) = cur.toList.take (i * 2) := by
        have h2 : scells l = scells (l.take i) ++ scells (l.drop i) := by rw [← scells_append, List.take_append_drop]
        have h3 : (scells (l.take i)).length = i * 2 := by rw [scells_length, List.length_take]; omega
        have h4 : (cur.toList.take (n * 2)).take (i * 2) = scells (l.take i) := by rw [htake, h2, ← h3, List.take_left]
        rw [← h4, List.take_take, Nat.min_eq_left (by omega)]
      rw [h1, Nat.add_zero]
      have hlen : (cur.toList.take (i * 2) ++ scells (List.replicate (m + 1) (0, 0))).length = n * 2 := by
        rw [List.length_append, hzl, List.length_take, Array.length_toList, hcs]; omega
      rw [← hlen]
      exact List.take_left
theorem wpList_clear {w : World} {ops : Array Oper} {rest : List Oper} {o : Oper} {a : Act} {Q : Exit → Act → World → Prop} (hgd : o.guard = none) (s : Operand)
    (ho : o.op = .call { callee := .builtin .clear, args := #[s], argTypes := #[22] }) (v : Value) (hs : a.eval s = v) {w' : World}
    (hrun : ∀ ty, (Builtin.clear_ #[22] ty #[v]).run Try.prog w = .ok (.tuple #[]) w') (h : wpList Try.prog ops Q rest (a.put o.dst (.tuple #[])) w') : wpList Try.prog ops Q (o :: rest) a w := by
  refine wpList_plain hgd fun _ hK => ?_
  unfold Oper.wp execOp
  simp only [ho, resolve, invoke, builtin, Sem.run_bind, Sem.run_pure, Result.andThen_ok, List.map_toArray, List.map_cons, List.map_nil, hs, hrun]
  exact hK _ _ h

theorem full_snoc {l : List S2} {k : Nat} {v : S2} (h : l[k]? = some v) : full (l.take (k + 1)) = full (l.take k) ++ (if emptyS v then [] else [v]) := by
  unfold full
  rw [List.take_add_one, h, List.filter_append]
  congr 1
  simp only [Option.toList_some, List.filter_cons, full_emptyS, List.filter_nil]
  cases emptyS v <;> rfl
theorem full_all {l : List S2} (h : ∀ v ∈ l, emptyS v = false) : full l = l := List.filter_eq_self.2 fun v hv => by rw [full_emptyS, h v hv]; rfl
theorem full_le (l : List S2) : (full l).length ≤ l.length := List.length_filter_le _ _
theorem fidx_cases (p : S2 → Bool) (l : List S2) : (fidx p l = -1 ∧ ∀ v ∈ l, p v = false) ∨ ∃ (k : Nat) (v : S2), fidx p l = (k : Int) ∧ l[k]? = some v ∧ p v = true ∧ ∀ u ∈ l.take k, p u = false := by
  by_cases h : l.any p = true
  · right
    have hk : l.findIdx p < l.length := List.findIdx_lt_length_of_exists (List.any_eq_true.1 h)
    refine ⟨l.findIdx p, l[l.findIdx p], by unfold fidx; rw [if_pos h], List.getElem?_eq_getElem hk, List.findIdx_getElem, fun u hu => ?_⟩
    obtain ⟨j, hj, rfl⟩ := List.mem_take_iff_getElem.1 hu
    have := List.not_of_lt_findIdx (show j < l.findIdx p by omega)
    simpa using this
  · left
    have h0 : l.any p = false := by simpa using h
    rw [List.any_eq_false] at h0
    exact ⟨by unfold fidx; rw [if_neg h], fun v hv => by simpa using h0 v hv⟩

set_option maxHeartbeats 4000000 in
set_option maxRecDepth 100000 in
theorem delete_any (base : Nat) (A : Option Addr) (c : Nat) (l : List S2) (w : World) (hown : w.ownsRow base 27 2 (.slice A l.length c) l.length (scells l)) (hbase : base ≤ w.heap.size) (hl : l.length ≤ 1000000000) :
    Calls Try.prog 45 #[.slice A l.length c, .func (.func 43) #[] #[]] w fun e w' => ∃ A' c', e = .returned (.slice A' (full l).length c') ∧ w'.ownsRow base 27 2 (.slice A' (full l).length c') (full l).length (scells (full l)) ∧ Below base w w' := by
  have I0 := index0_any w.heap.size A c l 43 emptyS w (rd_own hown) (Nat.le_refl _) hl (fun _ _ => by kernel_rfl) (fun w' h v hv => emptyS_any v w')
  rcases fidx_cases emptyS l with ⟨he, hno⟩ | ⟨k0, v0, he, hv0, hp0, hno⟩
  · rw [he] at I0
    have HI := Lib.hid I0
    have hm := full_all hno
    rw [hm]
    clear I0 he hno hm
    go_enter Try.func45, Try.ntmps45
    go_wp2_with fail
    refine HI.out.mono ?_; rintro e w2 ⟨rfl, hb2⟩
    have hown2 := own_bel hown hb2
    go_wp2_with fail
    go_ret
    exact ⟨A, c, rfl, hown2, hb2.mono hbase⟩
  · have hk0 : k0 < l.length := (List.getElem?_eq_some_iff.1 hv0).1
    rw [he] at I0
    have HI := Lib.hid I0
    obtain ⟨n, hn⟩ : ∃ n, n = l.length := ⟨_, rfl⟩
    obtain ⟨g, cap, hA, hg1⟩ : ∃ g cap, Value.slice A l.length c = .slice (some ⟨g, 0, none⟩) l.length cap ∧ base ≤ g := by
      rcases hown.2 with ⟨hv, hz⟩ | ⟨g, cap, cur, hv, hb, _⟩
      · omega
      · exact ⟨g, cap, hv, hb⟩
    simp only [Value.slice.injEq, true_and] at hA
    obtain ⟨rfl, rfl⟩ := hA
    have hnc : n ≤ c := by rw [hn]; exact own_le hown
    rw [← hn] at hown hk0 HI ⊢
    rw [← hn] at hl
    have HN := Lib.hid hn
    have h0 : full (l.take (k0 + 1)) = l.take k0 := by rw [full_snoc hv0, if_pos hp0, List.append_nil, full_all hno]
    have H0 := Lib.hid h0
    have HV0 := Lib.hid hv0
    have hkI : ((k0 : Int) == -1) = false := beq_eq_false_iff_ne.2 (by omega)
    clear I0 he hno h0 hv0 hp0 hn
    go_enter Try.func45, Try.ntmps45
    go_wp2_with fail
    refine HI.out.mono ?_; rintro e w1 ⟨rfl, hb1⟩
    have hown1 := own_bel hown hb1
    have hb01 : Below base w w1 := hb1.mono hbase
    go_wp2_with fail
    go_loopw [5, 6] (fun v5 v6 wr => ∃ (j i : Nat) (mid : List S2), j ≤ n ∧ v6 = .int .i64 j ∧ v5 = .int .i64 i ∧ i = (full (l.take j)).length ∧ i + mid.length = j ∧ i < j ∧
        wr.ownsRow base 27 2 (.slice (some ⟨g, 0, none⟩) n c) n (scells (full (l.take j) ++ (mid ++ l.drop j))) ∧ Below base w wr) (fun _ v6 _ => n - (intOf v6).toNat)
    case atStart =>
      refine ⟨k0 + 1, k0, [v0], by omega, by go_num, rfl, ?_, rfl, by omega, ?_, hb01⟩
      · rw [H0.out, List.length_take, ← HN.out]; omega
      · have e : full (l.take (k0 + 1)) ++ ([v0] ++ l.drop (k0 + 1)) = l := by
          rw [H0.out]
          have h1 : l.drop k0 = v0 :: l.drop (k0 + 1) := by
            have hlt : k0 < l.length := by rw [← HN.out]; exact hk0
            have h2 := HV0.out
            rw [List.getElem?_eq_getElem hlt] at h2
            rw [← Option.some.inj h2]; exact List.drop_eq_getElem_cons hlt
          rw [List.singleton_append, ← h1, List.take_append_drop]
        rw [e]; exact hown1
    case round =>
      clear hown hown1 hb1 hb01
      obtain ⟨j, i, mid, hj, rfl, rfl, hi, hmid, hij, hown, hbel⟩ := hrel
      have HIL := Lib.hid hi
      have hbs := hbel.size
      clear hi
      by_cases hlt : j < n
      case neg =>
        have hjn : j = n := by omega
        have hge : (n : Int) ≤ (j : Int) := by omega
        have hin : i ≤ n := by omega
        have hml : (full l).length = i := by rw [HIL.out, hjn, HN.out, List.take_length]
        have hX : full (l.take j) ++ (mid ++ l.drop j) = full l ++ mid := by rw [hjn, HN.out, List.take_length, List.drop_length, List.append_nil]
        rw [hX] at hown
        obtain ⟨w3, hrun, hown3, hg3⟩ := run_clear_own hown i hin 0
        have hci : ¬ (c = i) := by omega
        have hrun2 : (Builtin.clear_ #[22] 0 #[.slice (some ⟨g, i * 2, none⟩) (n - i) (c - i)]).run Try.prog wr = .ok (.tuple #[]) w3 := by
          rw [if_neg hci] at hrun
          have e : (some (⟨g, 0, none⟩ : Addr)).map (·.add (i * 2)) = some ⟨g, i * 2, none⟩ := by
            simp only [Option.map_some, Addr.add, Nat.zero_add]
            by_cases h0 : i * 2 = 0
            · rw [h0]; rfl
            · simp [h0]
          rw [e] at hrun
          exact hrun
        have hsl := fun w' => from_spans (some ⟨g, 0, none⟩) n c i hin w' (i : Int) rfl
        have hsu := fun w' => upto_spans (A := some ⟨g, 0, none⟩) i hin hnc w' (i : Int) rfl
        have hb3 : Below base w w3 := hbel.grown hg3 (by omega) (fun k hk => by cases hk; exact hg1)
        have hrd := own_less hown3 hin
        have e3 : (scells ((full l ++ mid).take i ++ List.replicate (n - i) (0, 0))).take (i * 2) = scells (full l) := by
          rw [show (full l ++ mid).take i = full l by rw [← hml, List.take_left], scells_append, show i * 2 = (scells (full l)).length by rw [scells_length, hml], List.take_left]
        rw [e3] at hrd
        have HML := Lib.hid hml
        clear hrun hX e3 hown hjn hml
        go_wp2_with fail
        go_ret
        exact ⟨some ⟨g, 0, none⟩, c, by rw [HML.out]; rfl, by rw [HML.out]; exact hrd, hb3⟩
      obtain ⟨v, hv⟩ : ∃ v, l[j]? = some v := ⟨_, List.getElem?_eq_getElem (by rw [← HN.out]; exact hlt)⟩
      have hjI : (j : Int) < (n : Int) := by omega
      have hiI : (i : Int) < (n : Int) := by omega
      have hin : i < n := by omega
      have hd : l.drop j = v :: l.drop (j + 1) := by
        have h1 : j < l.length := by rw [← HN.out]; exact hlt
        rw [List.getElem?_eq_getElem h1] at hv
        rw [← Option.some.inj hv]; exact List.drop_eq_getElem_cons h1
      obtain ⟨X, hX⟩ : ∃ X, X = full (l.take j) ++ (mid ++ l.drop j) := ⟨_, rfl⟩
      rw [← hX] at hown
      have hXj : X[j]? = some v := by
        rw [hX, List.getElem?_append_right (by rw [← HIL.out]; omega), List.getElem?_append_right (by rw [← HIL.out]; omega), ← HIL.out, show j - i - mid.length = 0 by omega, hd]; rfl
      have hXl : X.length = n := by have := hown.1; rw [scells_length] at this; omega
      have q0 := hown.cellAt (j * 2) (by omega)
      have q1 := hown.cellAt (j * 2 + 1) (by omega)
      obtain ⟨e1, e2⟩ := scells_at _ _ _ hXj
      rw [e1] at q0; rw [e2] at q1
      have hms := full_snoc hv
      have P0 := fun w => emptyS_any v w
      obtain ⟨pv, hpv⟩ : ∃ x, x = emptyS v := ⟨_, rfl⟩
      rw [← hpv] at P0 hms
      have HP := Lib.hid P0
      have HMS := Lib.hid hms
      have HX := Lib.hid hX
      have HD := Lib.hid hd
      clear P0 hms hX hd hpv hv e1 e2 hXj
      go_wp2_with fail
      refine (HP.out _).mono ?_; rintro e w4 ⟨rfl, hb4⟩
      obtain ⟨w3, hw3⟩ : ∃ w3, w3 = wr.alloc (.cells #[.int .i64 v.1, .int .i64 v.2] 27) := ⟨_, rfl⟩
      rw [← hw3] at hb4
      have hb3 : Below base w w3 := by rw [hw3]; exact hbel.alloc (by omega) _
      have hown3 : w3.ownsRow base 27 2 (.slice (some ⟨g, 0, none⟩) n c) n (scells X) := by rw [hw3]; exact hown.alloc _
      obtain ⟨c0, c1⟩ := sc_block wr (.int .i64 v.1) (.int .i64 v.2) 27
      rw [← hw3] at c0 c1
      have hb3s := hb3.size
      have d0 := cell_be c0 hb4 (cell_lt c0)
      have d1 := cell_be c1 hb4 (cell_lt c1)
      have hown4 := own_bel hown3 hb4
      have hb04 : Below base w w4 := hb3.trans (hb4.mono (by omega))
      clear hw3 hb3 hown3 c0 c1 hown q0 q1
      cases pv
      · obtain ⟨y, hy⟩ : ∃ y, X[i]? = some y := ⟨_, List.getElem?_eq_getElem (by omega)⟩
        have ca := hown4.cellAt (i * 2) (by omega)
        have cb := hown4.cellAt (i * 2 + 1) (by omega)
        obtain ⟨e1, e2⟩ := scells_at _ _ _ hy
        rw [e1] at ca; rw [e2] at cb
        have fa := hown4.frozenAt (i * 2)
        have fb := hown4.frozenAt (i * 2 + 1)
        have hset := own_set2 hown4 v (show i < X.length by omega)
        have HSET := Lib.hid hset
        clear e1 e2 hy hset
        go_wp2_with fail
        go_roundw
        case rel =>
          obtain ⟨m0, mid', hmm⟩ : ∃ m0 mid', mid = m0 :: mid' := by
            rcases mid with _ | ⟨a, b⟩
            · simp at hmid; omega
            · exact ⟨a, b, rfl⟩
          refine ⟨j + 1, i + 1, mid' ++ [v], by omega, by go_num, by go_num, ?_, ?_, by omega, ?_, ?_⟩
          · rw [HMS.out, List.length_append, ← HIL.out]; rfl
          · rw [hmm] at hmid; simp at hmid ⊢; omega
          · have e : X.set i v = full (l.take (j + 1)) ++ (mid' ++ [v] ++ l.drop (j + 1)) := by
              rw [HX.out, hmm, List.set_append_right _ _ (by rw [← HIL.out]; omega), ← HIL.out, Nat.sub_self, HD.out, HMS.out]
              simp
            rw [← e]; exact HSET.out
          · exact (hb04.setCell (p := ⟨g, i * 2, none⟩) hg1 _).setCell (p := ⟨g, i * 2 + 1, none⟩) hg1 _
        case measure => simp [intOf]; omega
      · go_wp2_with fail
        go_roundw
        case rel =>
          refine ⟨j + 1, i, mid ++ [v], by omega, by go_num, rfl, ?_, by simp; omega, by omega, ?_, hb04⟩
          · rw [HMS.out, List.length_append, ← HIL.out]; rfl
          · have e : X = full (l.take (j + 1)) ++ (mid ++ [v] ++ l.drop (j + 1)) := by
              rw [HX.out, HD.out, HMS.out]
              simp
            rw [← e]; exact hown4
        case measure => simp [intOf]; omega
end Go.Proofs.Ytiohdacbnigpkaa

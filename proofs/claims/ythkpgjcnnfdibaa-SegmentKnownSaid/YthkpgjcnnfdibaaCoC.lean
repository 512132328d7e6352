/- Joined texts: see the remark ahead of each part. No condition but those that the parts name. -/
import Derived.Test.YthkpgjcnnfdibaaCoA
import Derived.Test.YthkpgjcnnfdibaaCoB
import Derived.Lib.AppendZerosOnto
/-! Plain: words in the order in which they come first (layer 6). No program in sight. -/
namespace Go.Proofs.Ythkpgjcnnfdibaa
open Go.RowKit
set_option linter.unusedVariables false

theorem addWord_pre (ws : List (List UInt8)) (t : List UInt8) : ws <+: addWord ws t := by
  unfold addWord; split
  · exact List.prefix_refl _
  · exact List.prefix_append _ _
theorem addWord_mem (ws : List (List UInt8)) (t : List UInt8) : t ∈ addWord ws t := by
  unfold addWord; split
  · assumption
  · simp
theorem wordsF_pre : ∀ (l : List V) (ws : List (List UInt8)), ws <+: wordsF ws l
  | [], ws => List.prefix_refl _
  | v :: l, ws => (addWord_pre ws v.t).trans (wordsF_pre l (addWord ws v.t))
theorem wordsF_app (ws : List (List UInt8)) (l m : List V) : wordsF ws (l ++ m) = wordsF (wordsF ws l) m := List.foldl_append
theorem words_snoc {l : List V} {k : Nat} {v : V} (h : l[k]? = some v) : words (l.take (k + 1)) = addWord (words (l.take k)) v.t := by
  unfold words
  rw [List.take_add_one, h, wordsF_app]; rfl
theorem words_take (l : List V) (k : Nat) : words (l.take k) <+: words l := by
  unfold words
  have e : wordsF [] l = wordsF (wordsF [] (l.take k)) (l.drop k) := by rw [← wordsF_app, List.take_append_drop]
  rw [e]; exact wordsF_pre _ _
theorem flat_pre {ws us : List (List UInt8)} (h : ws <+: us) : (ws.flatMap wbytes).length ≤ (us.flatMap wbytes).length := by
  obtain ⟨r, rfl⟩ := h
  rw [List.flatMap_append, List.length_append]; omega
theorem idx_pre {ws us : List (List UInt8)} {t : List UInt8} (h : ws <+: us) (hm : t ∈ ws) : us.idxOf t = ws.idxOf t := by
  obtain ⟨r, rfl⟩ := h
  rw [List.idxOf_append, if_pos hm]
theorem wordsF_mem : ∀ (l : List V) (ws : List (List UInt8)), ∀ v ∈ l, v.t ∈ wordsF ws l
  | x :: l, ws, v, h => by
    rcases List.mem_cons.1 h with rfl | h
    · exact (wordsF_pre l _).subset (addWord_mem ws _)
    · exact wordsF_mem l _ v h
theorem wordsF_of : ∀ (l : List V) (ws : List (List UInt8)) (t : List UInt8), t ∈ wordsF ws l → t ∈ ws ∨ ∃ v ∈ l, v.t = t
  | [], ws, t, h => Or.inl h
  | x :: l, ws, t, h => by
    rcases wordsF_of l _ t h with h | ⟨v, hv, e⟩
    · have h : t ∈ addWord ws x.t := h
      unfold addWord at h
      split at h
      · exact Or.inl h
      · rcases List.mem_append.1 h with h | h
        · exact Or.inl h
        · simp at h; exact Or.inr ⟨x, List.mem_cons_self, h.symm⟩
    · exact Or.inr ⟨v, List.mem_cons_of_mem _ hv, e⟩
theorem wordsF_len : ∀ (l : List V) (ws : List (List UInt8)), (wordsF ws l).length ≤ ws.length + l.length
  | [], ws => by simp [wordsF]
  | x :: l, ws => by
    have h := wordsF_len l (addWord ws x.t)
    have : (addWord ws x.t).length ≤ ws.length + 1 := by unfold addWord; split <;> simp
    have e : wordsF ws (x :: l) = wordsF (addWord ws x.t) l := rfl
    rw [e]; simp; omega
theorem which_snoc {l : List V} {k : Nat} {v : V} (h : l[k]? = some v) :
    (l.take (k + 1)).flatMap (fun v => whichB (words (l.take (k + 1))) v.t) = (l.take k).flatMap (fun v => whichB (words (l.take k)) v.t) ++ whichB (words (l.take (k + 1))) v.t := by
  have h1 : l.take (k + 1) = l.take k ++ [v] := by rw [List.take_add_one, h]; rfl
  have h2 : ∀ u ∈ l.take k, whichB (words (l.take (k + 1))) u.t = whichB (words (l.take k)) u.t := fun u hu => by
    unfold whichB
    rw [words_snoc h, idx_pre (addWord_pre _ _) (show u.t ∈ words (l.take k) from wordsF_mem _ _ u hu)]
  conv => lhs; rw [h1, List.flatMap_append, ← h1]
  congr 1
  · rw [List.flatMap_def, List.flatMap_def, List.map_congr_left h2]
  · simp
theorem flat_snoc (ws : List (List UInt8)) (t : List UInt8) : (ws ++ [t]).flatMap wbytes = ws.flatMap wbytes ++ (vput t.length ++ t) := by
  rw [List.flatMap_append]; simp [wbytes]
end Go.Proofs.Ythkpgjcnnfdibaa

/-! The walks of slices.Grow, slices.Concat over bytes (layer 6). -/
namespace Go.Proofs.Ythkpgjcnnfdibaa
open Go.RowKit Go.Maps
set_option linter.unusedVariables false
set_option linter.unusedSimpArgs false

set_option maxHeartbeats 2000000 in
set_option maxRecDepth 100000 in
/-- slices.Grow of no slice -/
theorem grow_any (n : Nat) (hn : n ≤ 4611686018427) (w : World) :
    Calls Try.prog 96 #[.slice none 0 0, .int .i64 (n : Int)] w fun e w' => ∃ v, e = .returned v ∧ w'.ownsRow w.heap.size 5 1 v 0 [] ∧ Below w.heap.size w w' := by
  by_cases h0 : n = 0
  · subst h0
    go_enter Try.func96, Try.ntmps96
    go_wp2
    go_ret
    exact ⟨_, rfl, World.ownsRow_nil _ _ _ _, Below.refl _ _⟩
  · obtain ⟨i0, hi, hz0, hz1, hz2⟩ := info_parts Try.infoU8
    have hck : 0 + n = n := Nat.zero_add n
    have hrz : ∀ ty, (Builtin.append_ #[22, 3] ty #[.slice none 0 0, .int .i64 (n : Int)]).run Try.prog w =
        .ok (.slice (some ⟨w.heap.size, 0, none⟩) n (grownCap w n 0 5)) (w.drew.alloc (.cells (#[] ++ Builtin.zeroCells (Value.int .u8 0).cells n ++ Builtin.zeroCells (Value.int .u8 0).cells (grownCap w n 0 5 - n)) 5)) := fun ty => by
      have h := Lib.run_append_grow_zeros w 22 3 ty 5 i0 (.int .u8 0) .i64 .i64 Try.underlying22 Try.underlying3 hi hz0 none 0 0 [] (run_firstCells_none w.drew i0.size 0 0 0) n (by omega) (by omega) (by omega) (by omega) (by rw [hz2]; omega) (by rw [hck]; exact growslice_fits (by omega) (by rw [hz2]; omega))
      rw [hck] at h
      exact h
    have hge : n ≤ grownCap w n 0 5 := grownCap_ge w _ _ _
    have hle := grownCap_le_maxLen w n 0 5 (by unfold maxLen; omega)
    obtain ⟨G, hG⟩ : ∃ G, G = grownCap w n 0 5 := ⟨_, rfl⟩
    rw [← hG] at hrz hge hle
    obtain ⟨cs, hcs⟩ : ∃ cs, cs = (#[] ++ Builtin.zeroCells (Value.int .u8 0).cells n ++ Builtin.zeroCells (Value.int .u8 0).cells (G - n) : Array Value) := ⟨_, rfl⟩
    rw [← hcs] at hrz
    have hsz : cs.size = G * 1 := by rw [hcs]; simp [Value.cells, size_zeroCells]; omega
    have hle2 : G ≤ 9223372036854775807 := by unfold maxLen at hle; omega
    have h1 : ¬ ((n : Int) < 0) := by omega
    have h4 : 0 < (n : Int) := by omega
    have HL := Lib.hid hle
    clear hG hcs hle hck hi hz0 hz1 hz2 h0
    have HRZ := Lib.hid hrz
    clear hrz
    go_enter Try.func96, Try.ntmps96
    go_wp2_with (at_builtin; refine Lib.wpList_append_run _ rfl _ _ _ _ rfl _ _ rfl rfl _ _ (HRZ.out _) ?_)
    all_goals go_ret
    exact ⟨_, rfl, ⟨rfl, Or.inr ⟨_, _, _, rfl, Nat.le_refl _, (MapKept.heap_alloc _ _).1, Nat.zero_le _, HL.out, hsz, by simp⟩⟩, ((Below.refl _ w).drew).alloc (Nat.le_refl _) _⟩

/-- a slice of bytes as a value -/
abbrev slB (s : Option Addr × Nat × List UInt8) : Value := .slice s.1 s.2.2.length s.2.1
def bsB (l : List (Option Addr × Nat × List UInt8)) : List UInt8 := l.flatMap (·.2.2)
theorem bsB_snoc {l : List (Option Addr × Nat × List UInt8)} {k : Nat} {s : Option Addr × Nat × List UInt8} (h : l[k]? = some s) : bsB (l.take (k + 1)) = bsB (l.take k) ++ s.2.2 := by
  unfold bsB
  rw [List.take_add_one, h, List.flatMap_append]; simp
theorem bsB_le (l : List (Option Addr × Nat × List UInt8)) (k : Nat) : (bsB (l.take k)).length ≤ (bsB l).length := by
  have h := congrArg (fun l => (bsB l).length) (List.take_append_drop k l)
  simp only [bsB, List.flatMap_append, List.length_append] at h ⊢
  omega

set_option maxHeartbeats 2000000 in
set_option maxRecDepth 100000 in
theorem concat_any (A : Option Addr) (c : Nat) (l : List (Option Addr × Nat × List UInt8)) (w : World) (hr : Rd w w.heap.size A (l.map slB)) (hs : ∀ s ∈ l, Rd w w.heap.size s.1 (cells s.2.2)) (hl : l.length ≤ 100) (ht : (bsB l).length ≤ 4611686018) :
    Calls Try.prog 62 #[.slice A l.length c] w (RetB w (bsB l)) := by
  have HR := Lib.hid hr
  have HS := Lib.hid hs
  clear hr hs
  go_enter Try.func62, Try.ntmps62
  go_wp2
  go_loopw [3, 11] (fun v3 v11 wr => ∃ k : Nat, k ≤ l.length ∧ v11 = .int .i64 k ∧ v3 = .int .i64 ((bsB (l.take k)).length : Nat) ∧ w = wr) (fun _ v11 _ => l.length - (intOf v11).toNat)
  case atStart => exact ⟨0, by omega, rfl, rfl, rfl⟩
  case round =>
    obtain ⟨k, hk, rfl, rfl, rfl⟩ := hrel
    by_cases hlt : k < l.length
    case pos =>
      obtain ⟨s, hs⟩ : ∃ s, l[k]? = some s := ⟨_, List.getElem?_eq_getElem hlt⟩
      have hkI : (k : Int) < (l.length : Int) := by omega
      obtain ⟨gb, go, rfl, hgb, hat⟩ := HR.out.at (k := k) (by simpa using hlt)
      have q := hat k (slB s) (by rw [List.getElem?_map, hs]; rfl)
      have hsn := bsB_snoc hs
      have hle := bsB_le l (k + 1)
      rw [hsn, List.length_append] at hle
      obtain ⟨m, hm⟩ : ∃ m, m = (bsB (l.take k)).length := ⟨_, rfl⟩
      rw [← hm] at hle ⊢
      have HM := Lib.hid hm
      have HSN := Lib.hid hsn
      have hneg : ¬ ((m : Int) + (s.2.2.length : Int) < 0) := by omega
      clear hm hsn hs hat
      go_wp2_with fail
      go_roundw
      case rel => exact ⟨k + 1, by omega, by go_num, by rw [HSN.out, List.length_append, ← HM.out]; go_num, by trivial⟩
      case measure => simp [intOf]; omega
    have hkk : k = l.length := by omega
    have hge : (l.length : Int) ≤ (k : Int) := by omega
    rw [hkk, List.take_length]
    have hG := grow_any (bsB l).length (by omega) w
    have HG := Lib.hid hG
    clear hG hkk
    go_wp2_with fail
    refine HG.out.mono ?_; rintro e w1 ⟨v1, rfl, hown1, hb1⟩
    go_wp2_with fail
    go_loopw [6, 27] (fun v6 v27 wr => ∃ k : Nat, k ≤ l.length ∧ v27 = .int .i64 k ∧ wr.ownsRow w.heap.size 5 1 v6 (bsB (l.take k)).length (cells (bsB (l.take k))) ∧ Below w.heap.size w wr) (fun _ v27 _ => l.length - (intOf v27).toNat)
    case atStart => exact ⟨0, by omega, rfl, hown1, hb1⟩
    case round =>
      obtain ⟨k, hk, rfl, hown, hbel⟩ := hrel
      by_cases hlt : k < l.length
      case neg =>
        have hkk : k = l.length := by omega
        rw [hkk, List.take_length] at hown
        clear hkk hown1 hb1
        go_wp2_with fail
        go_ret
        exact retB_of hown hbel
      obtain ⟨s, hs⟩ : ∃ s, l[k]? = some s := ⟨_, List.getElem?_eq_getElem hlt⟩
      have hkI : (k : Int) < (l.length : Int) := by omega
      obtain ⟨gb, go, rfl, hgb, hat⟩ := HR.out.at (k := k) (by simpa using hlt)
      have q0 := hat k (slB s) (by rw [List.getElem?_map, hs]; rfl)
      have q := (hbel.cell (p := ⟨gb, go + k, none⟩) hgb).trans q0
      have hrs := (HS.out s (List.mem_of_getElem? hs)).below hbel
      have hsn := bsB_snoc hs
      have hle := bsB_le l (k + 1)
      rw [hsn, List.length_append] at hle
      have HSN := Lib.hid hsn
      clear hsn hs hat q0 hown1 hb1
      have hcl : (cells s.2.2).length = s.2.2.length * 1 := by simp
      go_wp2_with (at_builtin; refine wpList_app El_u8 rfl _ _ rfl hown rfl rfl hrs hcl (cells_one _) (by unfold maxLen; omega) (by omega) hbel.size ?_; intro v4 w4 hown4 hg4 _)
      go_roundw
      case rel => exact ⟨k + 1, by omega, by go_num, by rw [HSN.out, List.length_append, cells_append]; exact hown4, hbel.trans (own_below hown hg4 hbel.size)⟩
      case measure => simp [intOf]; omega
end Go.Proofs.Ythkpgjcnnfdibaa

/-! The walk of column.putTexts (layer 6). -/
namespace Go.Proofs.Ythkpgjcnnfdibaa
open Go.RowKit Go.Maps
set_option linter.unusedVariables false
set_option linter.unusedSimpArgs false

theorem wpList_wlook {w : World} {ops : Array Oper} {rest : List Oper} {o : Oper} {a : Act} {Q : Exit → Act → World → Prop} (hg : o.guard = none) (m x : Operand) (hop : o.op = Op.lookup 124 m x true)
    {b : Nat} {ws : List (List UInt8)} (hm : a.eval m = .map (some b)) (h : WMap w b ws) {t : List UInt8} (hx : a.eval x = txt t) (ht : t.length ≤ 4294967296) {z : Int} {y : Bool} (hz : (((if t ∈ ws then ws.idxOf t else 0 : Nat)) : Int) = z) (hy : decide (t ∈ ws) = y)
    (hK : wpList Try.prog ops Q rest (a.put o.dst (.tuple #[.int .i64 z, .bool y])) w) : wpList Try.prog ops Q (o :: rest) a w := by
  refine wpList_plain hg fun K' hK' => ?_
  have hrun := h.look t ht
  have e : (if t ∈ ws then ((ws.idxOf t : Nat) : Int) else 0) = z := by rw [← hz]; split <;> rfl
  rw [e, hy] at hrun
  unfold Oper.wp
  simp [execOp, hop, hm, hx, hrun, Result.andThen]
  exact hK' _ _ hK
theorem wpList_wlook1 {w : World} {ops : Array Oper} {rest : List Oper} {o : Oper} {a : Act} {Q : Exit → Act → World → Prop} (hg : o.guard = none) (m x : Operand) (hop : o.op = Op.lookup 124 m x false)
    {b : Nat} {ws : List (List UInt8)} (hm : a.eval m = .map (some b)) (h : WMap w b ws) {t : List UInt8} (hx : a.eval x = txt t) (ht : t.length ≤ 4294967296) (hmem : t ∈ ws) {i : Nat} (hi : ws.idxOf t = i)
    (hK : wpList Try.prog ops Q rest (a.put o.dst (.int .i64 (i : Nat))) w) : wpList Try.prog ops Q (o :: rest) a w := by
  refine wpList_plain hg fun K' hK' => ?_
  have hrun := h.look1 t ht hmem
  rw [hi] at hrun
  unfold Oper.wp
  simp [execOp, hop, hm, hx, hrun, Result.andThen]
  exact hK' _ _ hK
theorem wpList_wlen {w : World} {ops : Array Oper} {rest : List Oper} {o : Oper} {a : Act} {Q : Exit → Act → World → Prop} (hg : o.guard = none) (m : Operand) (hop : o.op = Op.call { callee := Callee.builtin Builtin.len, args := #[m], argTypes := #[124] })
    {b : Nat} {ws : List (List UInt8)} (hm : a.eval m = .map (some b)) (h : WMap w b ws)
    (hK : wpList Try.prog ops Q rest (a.put o.dst (.int .i64 (ws.length : Nat))) w) : wpList Try.prog ops Q (o :: rest) a w := by
  refine wpList_plain hg fun K' hK' => ?_
  unfold Oper.wp
  simp [execOp, hop, resolve, invoke, builtin, hm, h.len o.type, Result.andThen]
  exact hK' _ _ hK
theorem wpList_wput {w : World} {ops : Array Oper} {rest : List Oper} {o : Oper} {a : Act} {Q : Exit → Act → World → Prop} (hg : o.guard = none) (m x v : Operand) (hop : o.op = Op.mapUpdate 124 m x v)
    {b : Nat} {ws : List (List UInt8)} (hm : a.eval m = .map (some b)) (h : WMap w b ws) {t : List UInt8} (hx : a.eval x = txt t) (ht : t.length ≤ 4294967296) (hmem : t ∉ ws) (hv : a.eval v = .int .i64 (ws.length : Nat))
    (hK : ∀ w', WMap w' b (ws ++ [t]) → w.grownBy w' (some b) → wpList Try.prog ops Q rest (a.put o.dst undef) w') : wpList Try.prog ops Q (o :: rest) a w := by
  refine wpList_plain hg fun K' hK' => ?_
  obtain ⟨w', hrun, h1, h2⟩ := h.put t ht hmem
  unfold Oper.wp
  simp [execOp, hop, hm, hx, hv, hrun, Result.andThen]
  exact hK' _ _ (hK w' h1 h2)

theorem cell_grown {w w' : World} {row : Option Nat} {p : Addr} {u : Value} (hg : w.grownBy w' row) (h : w.cell? p = some u) (hne : some p.block ≠ row) : w'.cell? p = some u := by
  have hlt := cell_lt h
  have e := hg.block p.block hlt hne
  unfold World.cell? at h ⊢
  rw [e]; exact h
theorem own_ne_wmap {w : World} {b base n sz : Nat} {e : TypeId} {ws : List (List UInt8)} {v : Value} {xs : List Value} (h : w.ownsRow base e sz v n xs) (hm : WMap w b ws) : v.ownBlock ≠ some b := by
  obtain ⟨es, clock, h1, _⟩ := hm
  rcases h.2 with ⟨rfl, _⟩ | ⟨g, cap, cur, rfl, _, hg, _⟩
  · simp [Value.ownBlock]
  · simp only [Value.ownBlock, ne_eq, Option.some.injEq]
    rintro rfl
    rw [h1] at hg; cases hg
theorem vput_le (n : Nat) (h : n < 18446744073709551616) : (vput n).length ≤ 10 := vput_length64 h
theorem which_le (l : List V) (k : Nat) (ws : List (List UInt8)) (h : ws.length ≤ 4294967296) : ((l.take k).flatMap fun v => whichB ws v.t).length ≤ 10 * k := by
  have h1 : ∀ m : List V, (m.flatMap fun v => whichB ws v.t).length ≤ 10 * m.length := fun m => by
    induction m with
    | nil => simp
    | cons v m ih =>
      have h2 : (whichB ws v.t).length ≤ 10 := by
        unfold whichB
        refine vput_length64 ?_
        have := List.idxOf_le_length (a := v.t) (l := ws)
        omega
      rw [List.flatMap_cons, List.length_append, List.length_cons]; omega
  have h3 := h1 (l.take k)
  have h4 : (l.take k).length ≤ k := List.length_take_le _ _
  omega

set_option maxHeartbeats 4000000 in
set_option maxRecDepth 100000 in
theorem putTexts_any (A : Option Addr) (c : Nat) (l : List V) (w : World) (hr : Rd w w.heap.size A (vcells l)) (hl : l.length ≤ 65536) (ht : ∀ v ∈ l, v.t.length ≤ 4294967296) (hT : ((words l).flatMap wbytes).length ≤ 4000000000) :
    Calls Try.prog 88 #[.slice A l.length c] w (RetB w (tput l)) := by
  have hmm := @run_makeMap Try.prog
  obtain ⟨w1, hw1⟩ : ∃ w1, w1 = w.alloc (.map #[] 0) := ⟨_, rfl⟩
  have hm1 : WMap w1 w.heap.size [] := by rw [hw1]; exact WMap.made w
  have hb1 : Below w.heap.size w w1 := by rw [hw1]; exact (Below.refl _ _).alloc (Nat.le_refl _) _
  have HR := Lib.hid hr
  have HT := Lib.hid hT
  have HTT := Lib.hid ht
  clear hr hT ht
  go_enter Try.func88, Try.ntmps88
  go_wp2_with fail
  go_loopw [4, 5, 13] (fun v4 v5 v13 wr => ∃ k : Nat, k ≤ l.length ∧ v13 = .int .i64 k ∧
      wr.ownsRow w.heap.size 5 1 v4 ((words (l.take k)).flatMap wbytes).length (cells ((words (l.take k)).flatMap wbytes)) ∧
      wr.ownsRow w.heap.size 5 1 v5 ((l.take k).flatMap fun v => whichB (words (l.take k)) v.t).length (cells ((l.take k).flatMap fun v => whichB (words (l.take k)) v.t)) ∧
      WMap wr w.heap.size (words (l.take k)) ∧ Below w.heap.size w wr) (fun _ _ v13 _ => l.length - (intOf v13).toNat)
  case atStart => exact ⟨0, by omega, rfl, World.ownsRow_nil _ _ _ _, World.ownsRow_nil _ _ _ _, hw1 ▸ hm1, hw1 ▸ hb1⟩
  case round =>
    obtain ⟨k, hk, rfl, hwo, hwh, hmap, hbel⟩ := hrel
    have hbs := hbel.size
    clear hm1 hb1 hw1 hmm
    by_cases hlt : k < l.length
    case neg =>
      have hkk : k = l.length := by omega
      have hge : (l.length : Int) ≤ (k : Int) := by omega
      rw [hkk, List.take_length] at hwo hwh hmap
      have hwhl := which_le l l.length (words l) (by have := wordsF_len l []; unfold words; simp at this; omega)
      rw [List.take_length] at hwhl
      have hnl : (words l).length ≤ 65536 := by have := wordsF_len l []; unfold words; simp at this; omega
      have htp : tput l = vput (words l).length ++ ((words l).flatMap wbytes ++ l.flatMap fun v => whichB (words l) v.t) := rfl
      obtain ⟨wo, hwo0⟩ : ∃ x, x = (words l).flatMap wbytes := ⟨_, rfl⟩
      obtain ⟨wh, hwh0⟩ : ∃ x, x = l.flatMap (fun v => whichB (words l) v.t) := ⟨_, rfl⟩
      obtain ⟨m, hm0⟩ : ∃ x, x = (words l).length := ⟨_, rfl⟩
      have hTl := HT.out
      rw [← hwo0] at hwo htp hTl
      rw [← hwh0] at hwh htp hwhl
      rw [← hm0] at htp hnl
      have hlm := fun ty => hmap.len ty
      rw [← hm0] at hlm
      have HTP := Lib.hid htp
      obtain ⟨A4, c4, rfl, hc4⟩ := own_form hwo
      obtain ⟨A5, c5, rfl, hc5⟩ := own_form hwh
      have P0 : Calls Try.prog 30 #[.slice none 0 0, .int .u64 (m : Int)] wr (RetB wr (vput m)) := Put_any 0 none 0 [] m (by omega) wr (Rd.nil _ _ _) (by simp)
      have HP := Lib.hid P0
      have hwrap : IntKind.u64.wrap (m : Int) = (m : Int) := by rw [IntKind.wrap_u64]; omega
      have hvl := vput_length64 (show m < 18446744073709551616 by omega)
      clear P0 hkk htp hwo0 hwh0 hm0
      go_wp2_with fail
      refine HP.out.mono ?_; rintro e w2 ⟨A3, c3, rfl, hown3, hb3⟩
      have hs2 := hb3.size
      have hwo2 := own_bel hwo hb3
      have hwh2 := own_bel hwh hb3
      have hb2 : Below w.heap.size w w2 := hbel.trans (hb3.mono hbs)
      obtain ⟨vm, hvm0⟩ : ∃ x, x = vput m := ⟨_, rfl⟩
      rw [← hvm0] at hown3 hvl HTP
      rw [← hvm0]
      obtain ⟨w4, hw4⟩ : ∃ w4, w4 = w2.alloc (.cells #[.slice A3 vm.length c3, .slice A4 wo.length c4, .slice A5 wh.length c5] 22) := ⟨_, rfl⟩
      have hz4 : w4.heap.size = w2.heap.size + 1 := by rw [hw4]; simp
      have hb4 : Below w.heap.size w w4 := by rw [hw4]; exact hb2.alloc (by omega) _
      have C0 := concat_any (some ⟨w2.heap.size, 0, none⟩) 3 [(A3, c3, vm), (A4, c4, wo), (A5, c5, wh)] w4 (by rw [hw4]; exact rd_arr _ [_, _, _] _ _ _ rfl (by simp)) (by
        intro s hs
        rw [hz4, hw4]
        simp only [List.mem_cons, List.mem_nil_iff, or_false] at hs
        rcases hs with rfl | rfl | rfl
        · exact ((rd_own hown3).alloc (Nat.le_refl _) _).more (by omega)
        · exact ((rd_own hwo2).alloc (Nat.le_refl _) _).more (by omega)
        · exact ((rd_own hwh2).alloc (Nat.le_refl _) _).more (by omega)) (by simp) (by simp [bsB]; omega)
      have e3 : bsB [(A3, c3, vm), (A4, c4, wo), (A5, c5, wh)] = vm ++ (wo ++ wh) := by simp [bsB]
      rw [e3] at C0
      obtain ⟨X, hX⟩ : ∃ X, X = vm ++ (wo ++ wh) := ⟨_, rfl⟩
      rw [← hX] at C0 HTP
      have C1 : Calls Try.prog 62 #[.slice (some ⟨w2.heap.size, 0, none⟩) 3 3] w4 (RetB w4 X) := C0
      have HC := Lib.hid C1
      rw [hw4] at HC
      clear C0 C1 e3 hX hvm0 hwo2 hwh2 hown3 hb3 hwo hwh hlm hmap
      go_wp2_with fail
      rw [hw4] at hb4 hz4
      refine HC.out.mono ?_; rintro e w5 ⟨A6, c6, rfl, hown6, hb6⟩
      have hb5 : Below w.heap.size w w5 := hb4.trans (hb6.mono (by omega))
      have hown7 := own_lower hown6 (show w.heap.size ≤ _ by omega)
      clear hown6 hb6 hb4 hw4
      go_wp2_with fail
      go_ret
      rw [HTP.out]
      exact retB_of hown7 hb5
    obtain ⟨v, hv⟩ : ∃ v, l[k]? = some v := ⟨_, List.getElem?_eq_getElem hlt⟩
    obtain ⟨gb, go, rfl, hgb, q0, q1, q2⟩ := rd_val HR.out hv
    have r0 := (hbel.cell (p := ⟨gb, go + k * 3, none⟩) (by show gb < _; omega)).trans q0
    have r1 := (hbel.cell (p := ⟨gb, go + k * 3 + 1, none⟩) (by show gb < _; omega)).trans q1
    have r2 := (hbel.cell (p := ⟨gb, go + k * 3 + 2, none⟩) (by show gb < _; omega)).trans q2
    have hkI : (k : Int) < (l.length : Int) := by omega
    have hwn := words_snoc hv
    have hwhn := which_snoc hv
    have htl := HTT.out v (List.mem_of_getElem? hv)
    have hpre := Nat.le_trans (flat_pre (words_take l (k + 1))) HT.out
    have hwsl : (words (l.take k)).length ≤ 65536 := by
      have h1 := wordsF_len (l.take k) []
      have h2 : (l.take k).length ≤ k := List.length_take_le _ _
      unfold words; simp at h1; omega
    have hwhl := which_le l k (words (l.take k)) (by omega)
    have hmemn : v.t ∈ words (l.take (k + 1)) := by rw [hwn]; exact addWord_mem _ _
    have hil : (words (l.take (k + 1))).idxOf v.t ≤ 65536 + 1 := by
      have h1 := wordsF_len (l.take (k + 1)) []
      have h2 : (l.take (k + 1)).length ≤ k + 1 := List.length_take_le _ _
      have h3 := List.idxOf_le_length (a := v.t) (l := words (l.take (k + 1)))
      have h4 : (words (l.take (k + 1))).length ≤ k + 1 := by unfold words; simp at h1; omega
      omega
    have hwb : whichB (words (l.take (k + 1))) v.t = vput ((words (l.take (k + 1))).idxOf v.t) := rfl
    rw [hwb] at hwhn
    obtain ⟨wn, hwn0⟩ : ∃ x, x = words (l.take (k + 1)) := ⟨_, rfl⟩
    obtain ⟨ws, hws0⟩ : ∃ x, x = words (l.take k) := ⟨_, rfl⟩
    obtain ⟨whn, hwhn0⟩ : ∃ x, x = (l.take (k + 1)).flatMap (fun v => whichB (words (l.take (k + 1))) v.t) := ⟨_, rfl⟩
    obtain ⟨wh, hwh0⟩ : ∃ x, x = (l.take k).flatMap (fun v => whichB (words (l.take k)) v.t) := ⟨_, rfl⟩
    rw [← hwhn0, ← hwh0, ← hwn0] at hwhn
    rw [← hwh0] at hwh hwhl
    rw [← hwn0, ← hws0] at hwn
    rw [← hws0] at hwo hmap hwsl
    rw [← hwn0] at hpre hmemn hil
    obtain ⟨i, hi⟩ : ∃ i, wn.idxOf v.t = i := ⟨_, rfl⟩
    rw [hi] at hwhn hil
    have HN := Lib.hid hwn0
    have HWN := Lib.hid hwhn0
    have HE := Lib.hid hwhn
    have HI := Lib.hid hi
    have hmapA := hmap.alloc (.cells #[.int .u8 (v.k : Int), .int .i64 v.n, txt v.t] 46)
    have hbA := hbel.alloc hbs (.cells #[.int .u8 (v.k : Int), .int .i64 v.n, txt v.t] 46)
    have hwrap : IntKind.u64.wrap (i : Int) = (i : Int) := by rw [IntKind.wrap_u64]; omega
    obtain ⟨A5, c5, rfl, hc5⟩ := own_form hwh
    by_cases hmem : v.t ∈ ws
    case pos =>
      have hww : wn = ws := by rw [hwn]; unfold addWord; rw [if_pos hmem]
      have hy : decide (v.t ∈ ws) = true := decide_eq_true hmem
      have hi2 : ws.idxOf v.t = i := by rw [← hww]; exact hi
      have hz : (((if v.t ∈ ws then ws.idxOf v.t else 0 : Nat)) : Int) = (i : Int) := by rw [if_pos hmem, hi2]
      have HW := Lib.hid hww
      have HZ := Lib.hid hz
      have HY := Lib.hid hy
      have HI2 := Lib.hid hi2
      clear hww hy hi2 hz hwn0 hws0 hwhn0 hwh0 hwn hwhn hi q0 q1 q2 hv hwb
      have P0 := Put_any _ A5 c5 wh i (by omega) _ (rd_own (hwh.alloc (.cells #[.int .u8 (v.k : Int), .int .i64 v.n, txt v.t] 46))) (by omega)
      rw [← HE.out] at P0
      have HP := Lib.hid P0
      clear P0
      go_wp2_with (first
        | (at_lookup; refine wpList_wlook rfl _ _ rfl rfl hmapA rfl htl HZ.out HY.out ?_)
        | (at_lookup; refine wpList_wlook1 rfl _ _ rfl rfl hmapA rfl htl hmem HI2.out ?_))
      refine HP.out.mono ?_; rintro e w4 ⟨A6, c6, rfl, hown6, hb6⟩
      have hb4 : Below w.heap.size w w4 := hbA.trans (hb6.mono (by have := hbA.size; omega))
      have hown7 := own_lower hown6 (show w.heap.size ≤ _ from hbA.size)
      have hwo4 := own_bel (hwo.alloc _) hb6
      have hm4 := hmapA.bel hb6 hmapA.lt
      clear hown6 hb6 hwo hwh hmap hmapA hbel hbA hmem r0 r1 r2
      go_wp2_with fail
      go_roundw
      case rel => exact ⟨k + 1, by omega, by go_num, by rw [← HN.out, HW.out]; exact hwo4, by rw [← HWN.out]; exact hown7, by rw [← HN.out, HW.out]; exact hm4, hb4⟩
      case measure => simp [intOf]; omega
    have hww : wn = ws ++ [v.t] := by rw [hwn]; unfold addWord; rw [if_neg hmem]
    have hy : decide (v.t ∈ ws) = false := decide_eq_false hmem
    have hz : (((if v.t ∈ ws then ws.idxOf v.t else 0 : Nat)) : Int) = 0 := by rw [if_neg hmem]; rfl
    have hfl : wn.flatMap wbytes = ws.flatMap wbytes ++ (vput v.t.length ++ v.t) := by rw [hww, flat_snoc]
    have hvl := vput_length64 (show v.t.length < 18446744073709551616 by omega)
    rw [hfl, List.length_append, List.length_append] at hpre
    have HW := Lib.hid hww
    have HFL := Lib.hid hfl
    have HZ := Lib.hid hz
    have HY := Lib.hid hy
    obtain ⟨wo, hwo0⟩ : ∃ x, x = ws.flatMap wbytes := ⟨_, rfl⟩
    rw [← hwo0] at hpre hwo
    rw [← hwo0] at HFL
    obtain ⟨A4, c4, rfl, hc4⟩ := own_form hwo
    have hwrapL : IntKind.u64.wrap (v.t.length : Int) = (v.t.length : Int) := by rw [IntKind.wrap_u64]; omega
    have hcA : (wr.alloc (.cells #[.int .u8 (v.k : Int), .int .i64 v.n, txt v.t] 46)).cell? ⟨wr.heap.size, 2, none⟩ = some (txt v.t) := (cv_block wr _ _ _ _).2.2
    have hzA : (wr.alloc (.cells #[.int .u8 (v.k : Int), .int .i64 v.n, txt v.t] 46)).heap.size = wr.heap.size + 1 := by simp
    clear hww hfl hy hz hwn0 hws0 hwhn0 hwh0 hwn hwhn hi q0 q1 q2 hv hwb hwo0
    go_wp2_with (first
      | (at_lookup; refine wpList_wlook rfl _ _ rfl rfl hmapA rfl htl HZ.out HY.out ?_)
      | (at_len; refine wpList_wlen rfl _ rfl rfl hmapA ?_)
      | (at_mapUpdate; refine wpList_wput rfl _ _ _ rfl rfl hmapA rfl htl hmem rfl ?_; intro w5 hm5 hg5))
    have hwo5 := (hwo.alloc (.cells #[.int .u8 (v.k : Int), .int .i64 v.n, txt v.t] 46)).kept hg5 (Or.inr (own_ne_wmap hwo hmap))
    have hwh5 := (hwh.alloc (.cells #[.int .u8 (v.k : Int), .int .i64 v.n, txt v.t] 46)).kept hg5 (Or.inr (own_ne_wmap hwh hmap))
    have hc5 := cell_grown hg5 hcA (by have := hmap.lt; simp; omega)
    have hb5 : Below w.heap.size w w5 := hbA.grown hg5 hbA.size (fun j hj => by cases hj; exact Nat.le_refl _)
    have hs5 := hg5.size
    rw [hzA] at hs5
    have F1 : ∀ w', Below w5.heap.size w5 w' → w'.cell? ⟨wr.heap.size, 2, none⟩ = some (txt v.t) := fun w' h => cell_be hc5 h (by show wr.heap.size < _; omega)
    clear hwo hwh hmap hmapA hbel hbA hcA hzA hg5 r0 r1 r2
    refine ah_start 10 (fun w' => Below w5.heap.size w5 w') rfl (by kernel_rfl) (Below.refl _ _).drew ?_ ; intro hS
    simp only [Act.put, List.setIfInBounds_toArray, List.set_cons_zero, List.set_cons_succ]
    (refine mv_val 0 (v := ?_) rfl (by kernel_rfl) (by kernel_rfl) (by kernel_rfl) (fun _ _ _ h => h) (by rfl) hS ?_ ?_; rotate_left; (focus (intro w hSw; (try dsimp only at hSw); (have f1 := F1 w hSw; have f2 := hwrapL); go_simp; first | done | with_reducible rfl)); simp only [Act.put, List.setIfInBounds_toArray, List.set_cons_zero, List.set_cons_succ])
    (refine mv_val 1 (v := ?_) rfl (by kernel_rfl) (by kernel_rfl) (by kernel_rfl) (fun _ _ _ h => h) (by rfl) hS ?_ ?_; rotate_left; (focus (intro w hSw; (try dsimp only at hSw); (have f1 := F1 w hSw; have f2 := hwrapL); go_simp; first | done | with_reducible rfl)); simp only [Act.put, List.setIfInBounds_toArray, List.set_cons_zero, List.set_cons_succ])
    (refine mv_val 2 (v := ?_) rfl (by kernel_rfl) (by kernel_rfl) (by kernel_rfl) (fun _ _ _ h => h) (by rfl) hS ?_ ?_; rotate_left; (focus (intro w hSw; (try dsimp only at hSw); (have f1 := F1 w hSw; have f2 := hwrapL); go_simp; first | done | with_reducible rfl)); simp only [Act.put, List.setIfInBounds_toArray, List.set_cons_zero, List.set_cons_succ])
    (refine mv_val 3 (v := ?_) rfl (by kernel_rfl) (by kernel_rfl) (by kernel_rfl) (fun _ _ _ h => h) (by rfl) hS ?_ ?_; rotate_left; (focus (intro w hSw; (try dsimp only at hSw); (have f1 := F1 w hSw; have f2 := hwrapL); go_simp; first | done | with_reducible rfl)); simp only [Act.put, List.setIfInBounds_toArray, List.set_cons_zero, List.set_cons_succ])
    (refine mv_val 4 (v := ?_) rfl (by kernel_rfl) (by kernel_rfl) (by kernel_rfl) (fun _ _ _ h => h) (by rfl) hS ?_ ?_; rotate_left; (focus (intro w hSw; (try dsimp only at hSw); (have f1 := F1 w hSw; have f2 := hwrapL); go_simp; first | done | with_reducible rfl)); simp only [Act.put, List.setIfInBounds_toArray, List.set_cons_zero, List.set_cons_succ])
    (refine mv_val 6 (v := ?_) rfl (by kernel_rfl) (by kernel_rfl) (by kernel_rfl) (fun _ _ _ h => h) (by rfl) hS ?_ ?_; rotate_left; (focus (intro w hSw; (try dsimp only at hSw); (have f1 := F1 w hSw; have f2 := hwrapL); go_simp; first | done | with_reducible rfl)); simp only [Act.put, List.setIfInBounds_toArray, List.set_cons_zero, List.set_cons_succ])
    (refine mv_val 7 (v := ?_) rfl (by kernel_rfl) (by kernel_rfl) (by kernel_rfl) (fun _ _ _ h => h) (by rfl) hS ?_ ?_; rotate_left; (focus (intro w hSw; (try dsimp only at hSw); (have f1 := F1 w hSw; have f2 := hwrapL); go_simp; first | done | with_reducible rfl)); simp only [Act.put, List.setIfInBounds_toArray, List.set_cons_zero, List.set_cons_succ])
    (refine mv_call 5 (f := ?_) (args := ?_) rfl (by kernel_rfl) (by rfl) ?_ ?_; rotate_left 2; (focus (go_simp; first | done | with_reducible rfl | (refine ⟨?_, ?_⟩ <;> with_reducible rfl))))
    refine (Put_any _ A4 c4 wo v.t.length (by omega) _ (rd_own (own_bel hwo5 hS)) (by omega)).mono ?_; rintro e w6 ⟨A6, c6, rfl, hown6, hb6⟩
    have hS2 : Below w5.heap.size w5 w6 := hS.trans (hb6.mono hS.size)
    refine ⟨_, rfl, hS2, ?_⟩
    have hs6 := hS.size
    replace hS := hS2
    have hs7 := hS2.size
    simp only [Act.put, List.setIfInBounds_toArray, List.set_cons_zero, List.set_cons_succ]
    refine mv_step 8 rfl (by kernel_rfl) (by rfl) (fun K hK => ?_)
    refine wp_app_str _ _ rfl hown6 rfl rfl (by rw [List.length_append]; omega) hb6.size ?_; intro v7 w7 hown7 hg7; refine hK _ _ ?_ ?_ <;> clear hK K
    · exact hS.trans ((own_below (base := w5.heap.size) (own_lower hown6 hs6) hg7 (by omega)))
    have hS3 : Below w5.heap.size w5 w7 := hS.trans ((own_below (base := w5.heap.size) (own_lower hown6 hs6) hg7 (by omega)))
    replace hS := hS3
    try simp only [Act.put, List.setIfInBounds_toArray, List.set_cons_zero, List.set_cons_succ]
    (refine mv_val 9 (v := ?_) rfl (by kernel_rfl) (by kernel_rfl) (by kernel_rfl) (fun _ _ _ h => h) (by rfl) hS ?_ ?_; rotate_left; (focus (intro w hSw; (try dsimp only at hSw); (have f1 := F1 w hSw; have f2 := hwrapL); go_simp; first | done | with_reducible rfl)); simp only [Act.put, List.setIfInBounds_toArray, List.set_cons_zero, List.set_cons_succ])
    refine wpAnyH_done (by kernel_rfl) ?_ _
    have hm7 := hm5.bel hS hm5.lt
    rw [← HW.out] at hm7
    have hwh7 := own_bel hwh5 hS
    have hc7 := F1 _ hS
    have hb7 : Below w.heap.size w w7 := hb5.trans (hS.mono (by omega))
    have hwo7 : w7.ownsRow w.heap.size 5 1 v7 (wn.flatMap wbytes).length (cells (wn.flatMap wbytes)) := by
      rw [HFL.out, ← List.append_assoc, List.length_append, cells_append]
      exact own_lower hown7 (by show w.heap.size ≤ w5.heap.size; omega)
    have hz7 : w.heap.size ≤ w7.heap.size := hb7.size
    have P0 := Put_any _ A5 c5 wh i (by omega) _ (rd_own hwh7) (by omega)
    rw [← HE.out] at P0
    have HP := Lib.hid P0
    clear P0 hown6 hown7 hm5 hwo5 hwh5 hS hS2 hS3 hb5 hb6 hg7 hc5 F1 hwh7
    go_wp2_with (at_lookup; refine wpList_wlook1 rfl _ _ rfl rfl hm7 rfl htl hmemn HI.out ?_)
    refine HP.out.mono ?_; rintro e w8 ⟨A8, c8, rfl, hown8, hb8⟩
    have hb9 : Below w.heap.size w w8 := hb7.trans (hb8.mono hz7)
    have hown9 := own_lower hown8 hz7
    have hwo9 := own_bel hwo7 hb8
    have hm9 := hm7.bel hb8 hm7.lt
    clear hown8 hb8 hwo7 hm7 hb7 hc7
    go_wp2_with fail
    go_roundw
    case rel => exact ⟨k + 1, by omega, by go_num, by rw [← HN.out]; exact hwo9, by rw [← HWN.out]; exact hown9, by rw [← HN.out]; exact hm9, hb9⟩
    case measure => simp [intOf]; omega
end Go.Proofs.Ythkpgjcnnfdibaa

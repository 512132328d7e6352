/- Joined texts: see the remark ahead of each part. No condition but those that the parts name. -/
import Derived.Test.YthkpgjcnnfdibaaCoE
import Derived.Test.YthkpgjcnnfdibaaKys
/-! Plain laws of layer 6: columns and their bytes are each other's; what has more behind, or is cut, is none. No program in sight. -/
namespace Go.Proofs.Ythkpgjcnnfdibaa
open Go.RowKit
set_option linter.unusedVariables false

theorem rmay_k {t : UInt8} {v : V} (h : rmay t v = true) (h0 : v.k ≠ 0) : v.k = t.toNat ∧ mayB v = true := by
  unfold rmay at h
  simp only [Bool.and_eq_true, Bool.or_eq_true, decide_eq_true_eq] at h
  exact ⟨by omega, h.1⟩
theorem rmay_null {t : UInt8} {v : V} (h : rmay t v = true) (h0 : v.k = 0) : v = null := by
  have hm : mayB v = true := by unfold rmay at h; simp only [Bool.and_eq_true] at h; exact h.1
  rcases mayB_k hm with ⟨_, e⟩ | ⟨h1, _⟩ | ⟨h1, _⟩ | ⟨h1, _⟩
  · exact e
  all_goals omega
/-- what is asked of a value's size -/
def vsz (v : V) : Prop := i64r v.n ∧ v.t.length < 18446744073709551616
theorem bitAt_left {a x : List UInt8} {i : Nat} (h : i / 8 < a.length) : bitAt (a ++ x) i = bitAt a i := by
  unfold bitAt; rw [List.getElem?_append_left h]
theorem bitsN_at {n : Nat} (p : Nat → Bool) (x : List UInt8) {i : Nat} (hi : i < 8 * size8 n) : bitAt (bitsN n p ++ x) i = (decide (i < n) && p i) := by
  rw [bitAt_left (by rw [bitsN_len]; omega), bitsN_bit n p i hi]
theorem tkE_bits (n : Nat) (p : Nat → Bool) (x : List UInt8) : tkE (bitsN n p ++ x) n = 0 := by
  unfold tkE
  rw [if_neg (by rw [List.length_append, bitsN_len]; omega), if_neg]
  rw [anyBit_iff]
  rintro ⟨q, h1, h2, h3⟩
  rw [bitsN_at p x h2] at h3
  simp only [Bool.and_eq_true, decide_eq_true_eq] at h3
  omega
theorem bitsN_val {n : Nat} (p : Nat → Bool) (x : List UInt8) {i : Nat} (hi : i < n) : bitAt (bitsN n p ++ x) i = p i := by
  rw [bitsN_at p x (by have := size8_le n; omega)]; simp [hi]
theorem colok_parts {t : UInt8} {l : List V} (h : colok t l = true) : tyok t = true ∧ l.length ≤ 65536 ∧ ∀ v ∈ l, rmay t v = true := by
  unfold colok at h
  simp only [Bool.and_eq_true, decide_eq_true_eq, List.all_eq_true] at h
  exact ⟨h.1, h.2.1, h.2.2⟩
theorem mem_marks {l : List V} {v : V} : v ∈ marks l ↔ v ∈ l ∧ v.k ≠ 0 := by
  unfold marks; rw [List.mem_filter]; simp
theorem marks_cons0 {v : V} (l : List V) (h : v.k = 0) : marks (v :: l) = marks l := by
  unfold marks; rw [List.filter_cons, if_neg (by simp [h])]
theorem marks_cons1 {v : V} (l : List V) (h : v.k ≠ 0) : marks (v :: l) = v :: marks l := by
  unfold marks; rw [List.filter_cons, if_pos (by simp [h])]
theorem isNull_t {v : V} (h : v.k = 0) : isNull v = true := by simp [h]
theorem isNull_f {v : V} (h : v.k ≠ 0) : isNull v = false := by simp [h]
theorem merge_back {b : List UInt8} : ∀ (l : List V) (i : Nat), (∀ j v, l[j]? = some v → bitAt b (i + j) = isNull v) → (∀ v ∈ l, v.k = 0 → v = null) → merge b i l.length (marks l) = l
  | [], i, _, _ => rfl
  | v :: l, i, h, hn => by
    have h0 := h 0 v rfl
    rw [Nat.add_zero] at h0
    have ih := merge_back l (i + 1) (fun j u hu => by have := h (j + 1) u (by simpa using hu); rwa [show i + 1 + j = i + (j + 1) by omega]) (fun u hu => hn u (List.mem_cons_of_mem _ hu))
    by_cases hv : v.k = 0
    · rw [marks_cons0 l hv, List.length_cons, merge_null (by rw [h0, isNull_t hv]), ih, hn v (List.mem_cons_self ..) hv]
    · rw [marks_cons1 l hv, List.length_cons, merge_mark (by rw [h0, isNull_f hv]), ih]
theorem marks_take {l : List V} {k : Nat} {v : V} (h : l[k]? = some v) : (marks (l.take (k + 1))).length = (marks (l.take k)).length + (if isNull v then 0 else 1) := by
  unfold marks
  rw [List.take_add_one, h, List.filter_append, List.length_append]
  congr 1
  by_cases hn : v.k = 0
  · simp [hn]
  · simp [hn]
theorem zeros_marks {b : List UInt8} {l : List V} (h : ∀ j v, l[j]? = some v → bitAt b j = isNull v) : ∀ k, k ≤ l.length → zeros b k = (marks (l.take k)).length
  | 0, _ => by simp [zeros, marks]
  | k + 1, hk => by
    have hv : l[k]? = some (l[k]'(by omega)) := List.getElem?_eq_getElem _
    rw [zeros_snoc, zeros_marks h k (by omega), marks_take hv, h k _ hv]

/-! ### truths -/
theorem truthAt_of {l : List V} {i : Nat} {v : V} (h : l[i]? = some v) : truthAt l i = decide (v.n = 1) := by unfold truthAt; rw [h]
theorem truths_back {m : List V} (hm : ∀ v ∈ m, v.k = 1 ∧ (v.n = 0 ∨ v.n = 1) ∧ v.t = []) {b : List UInt8} (hb : ∀ i v, m[i]? = some v → bitAt b i = decide (v.n = 1)) : truthsOf b m.length = m := by
  apply List.ext_getElem?
  intro i
  unfold truthsOf
  rw [List.getElem?_map]
  by_cases hi : i < m.length
  · rw [List.getElem?_range hi, List.getElem?_eq_getElem hi]
    obtain ⟨v, hv⟩ : ∃ v, m[i] = v := ⟨_, rfl⟩
    have hg : m[i]? = some v := by rw [List.getElem?_eq_getElem hi, hv]
    rw [hv, Option.map_some, hb i v hg]
    obtain ⟨h1, h2, h3⟩ := hm v (List.mem_of_getElem? hg)
    obtain ⟨k, n, t⟩ := v
    dsimp only at h1 h2 h3
    subst h1 h3
    rcases h2 with rfl | rfl <;> simp
  · rw [List.getElem?_eq_none (by simpa using hi), List.getElem?_eq_none (by omega)]; rfl

/-! ### numbers: what has more behind is none -/
theorem dget_more : ∀ (R : List (Nat × Int)) (cs : List Int) (n : Nat) (x : List UInt8), x ≠ [] → In.good cs.getLast? R → (∀ p ∈ R, p.1 < 18446744073709551616 ∧ In.i64 p.2) → cs.length + (In.unrl R).length = n →
    (In.dget n cs (R.flatMap In.enc1 ++ x)).2 ≠ 0
  | [], cs, n, x, hx, _, _, hn => by
    rw [In.dget_eq]
    simp [In.unrl] at hn
    rw [if_neg (by omega)]; simp [hx]
  | (k, c) :: R, cs, n, x, hx, ⟨h1, h2, h3⟩, hb, hn => by
    obtain ⟨hk, hc⟩ := hb (k, c) (List.mem_cons_self ..)
    have hb' : ∀ p ∈ R, p.1 < 18446744073709551616 ∧ In.i64 p.2 := fun p hp => hb p (List.mem_cons_of_mem _ hp)
    have e : ((k, c) :: R).flatMap In.enc1 ++ x = In.enc1 (k, c) ++ (R.flatMap In.enc1 ++ x) := by simp
    obtain ⟨g1, g2, g3, g4⟩ := In.vget_enc1 (p := (k, c)) hk hc (R.flatMap In.enc1 ++ x)
    have hlast : ¬ (cs ≠ [] ∧ cs.getLast? = some c) := fun h => h2 h.2
    have hz : zag ((zig c).toNat : Int) = c := by rw [(In.zig_nat hc).2]; exact zag_zig c
    have hul : (In.unrl ((k, c) :: R)).length = k + (In.unrl R).length := by rw [In.unrl_cons]; simp
    have ih := dget_more R (cs ++ List.replicate k c) n x hx (by rw [(In.last_rep k c cs h1).2]; exact h3) hb'
    simp only [List.length_append, List.length_replicate] at ih
    rw [e, In.dget_eq]
    simp only [g1, g2, g3, g4, hz]
    rw [hul] at hn
    rw [if_pos (by omega), if_neg (by simp), if_neg (by simp), if_neg (by omega), if_neg (by simp), if_neg hlast]
    exact ih (by omega)
theorem iget_more (l : List Int) (h : ∀ v ∈ l, In.i64 v) (hl : l.length ≤ 65536) {x : List UInt8} (hx : x ≠ []) : (In.iget (In.iput l ++ x) l.length).2 ≠ 0 := by
  have hc := In.chg_length l 0 0
  have hR : In.good none (In.rl 0 0 (In.chg 0 0 l)) := In.good_rl _ _ _ _ (by simp) (by simp)
  have hu : In.unrl (In.rl 0 0 (In.chg 0 0 l)) = In.chg 0 0 l := by rw [In.unrl_rl]; rfl
  have hb : ∀ p ∈ In.rl 0 0 (In.chg 0 0 l), p.1 < 18446744073709551616 ∧ In.i64 p.2 := fun p hp => by
    have h1 := In.rl_count _ _ _ p hp
    exact ⟨by omega, In.rl_val _ _ _ (In.chg_i64 l 0 0) (by simp) p hp⟩
  have D := dget_more (In.rl 0 0 (In.chg 0 0 l)) [] l.length x hx hR hb (by rw [hu, hc]; simp)
  unfold In.iget
  rw [if_neg (by omega), Int.toNat_natCast]
  exact D
theorem dget_errv : ∀ (f n : Nat) (cs : List Int) (b : List UInt8), (In.dgetF f n cs b).2 = 0 ∨ (In.dgetF f n cs b).2 = 20 ∨ (In.dgetF f n cs b).2 = 21
  | 0, n, cs, b => by right; right; rfl
  | f + 1, n, cs, b => by
    unfold In.dgetF
    have hv : ∀ r : List UInt8, (vget r).2.2 = 0 ∨ (vget r).2.2 = 20 ∨ (vget r).2.2 = 21 := fun r => by
      rcases vget_cases r with h | h | h
      · exact .inl h
      · rw [h]; simp
      · rw [h]; simp
    split
    · split
      · simp
      split
      · exact hv _
      split
      · simp
      split
      · exact hv _
      split
      · simp
      · exact dget_errv f n _ _
    · split <;> simp
theorem iget_errv (b : List UInt8) (n : Nat) (hn : n ≤ 65536) : (In.iget b n).2 = 0 ∨ (In.iget b n).2 = 20 ∨ (In.iget b n).2 = 21 := by
  unfold In.iget
  rw [if_neg (by omega)]
  exact dget_errv _ _ _ _

/-! ### texts -/
theorem rwords_put : ∀ (ws ws0 : List (List UInt8)) (x : List UInt8), (∀ w ∈ ws, w.length < 18446744073709551616) → rwords ws.length ws0 (ws.flatMap wbytes ++ x) = (ws0 ++ ws, x, 0)
  | [], ws0, x, _ => by simp [rwords]
  | w :: ws, ws0, x, h => by
    have hw := h w (List.mem_cons_self ..)
    have e : (w :: ws).flatMap wbytes ++ x = vput w.length ++ (w ++ (ws.flatMap wbytes ++ x)) := by simp [wbytes]
    have hv := vget_vput hw (w ++ (ws.flatMap wbytes ++ x))
    rw [e, List.length_cons]
    unfold rwords
    rw [hv]
    dsimp only
    rw [if_neg (by simp), if_neg (by simp only [List.length_append]; omega), ← List.drop_drop, List.drop_left, List.take_left, List.drop_left, rwords_put ws _ x (fun u hu => h u (List.mem_cons_of_mem _ hu)), List.append_assoc]; rfl
theorem rmarks_put (W : List (List UInt8)) (hW : W.length < 18446744073709551616) : ∀ (l out : List V) (x : List UInt8), (∀ v ∈ l, v.t ∈ W ∧ v.k = 3 ∧ v.n = 0) → rmarks W l.length out (l.flatMap (fun v => whichB W v.t) ++ x) = (out ++ l, x, 0)
  | [], out, x, _ => by simp [rmarks]
  | v :: l, out, x, h => by
    obtain ⟨h1, h2, h3⟩ := h v (List.mem_cons_self ..)
    have hi : W.idxOf v.t < W.length := List.idxOf_lt_length_iff.2 h1
    have e : (v :: l).flatMap (fun v => whichB W v.t) ++ x = vput (W.idxOf v.t) ++ (l.flatMap (fun v => whichB W v.t) ++ x) := by simp [whichB]
    have hv := vget_vput (show W.idxOf v.t < 18446744073709551616 by omega) (l.flatMap (fun v => whichB W v.t) ++ x)
    have hg : W[W.idxOf v.t]? = some v.t := by rw [List.getElem?_eq_getElem hi, List.getElem_idxOf]
    have he : (⟨3, 0, v.t⟩ : V) = v := by
      obtain ⟨k, n, t⟩ := v; dsimp only at h2 h3; subst h2 h3; rfl
    rw [e, List.length_cons]
    unfold rmarks
    rw [hv]
    dsimp only
    rw [if_neg (by simp), if_neg (by omega), List.drop_left, hg, Option.getD_some, he, rmarks_put W hW l _ x (fun u hu => h u (List.mem_cons_of_mem _ hu)), List.append_assoc]; rfl
theorem words_le (l : List V) : (words l).length ≤ l.length := by have := wordsF_len l []; simpa [words] using this
theorem words_of {l : List V} {w : List UInt8} (h : w ∈ words l) : ∃ v ∈ l, v.t = w := by
  rcases wordsF_of l [] w h with h | h
  · simp at h
  · exact h
theorem tput_app (l : List V) (x : List UInt8) : tput l ++ x = vput (words l).length ++ ((words l).flatMap wbytes ++ (l.flatMap (fun v => whichB (words l) v.t) ++ x)) := by
  unfold tput; simp [List.append_assoc]
theorem tget_parts {l : List V} (hl : l.length ≤ 65536) (h : ∀ v ∈ l, v.k = 3 ∧ v.n = 0 ∧ v.t.length < 18446744073709551616) (x : List UInt8) :
    vget (tput l ++ x) = ((words l).length, (vput (words l).length).length, 0) ∧
    rwords (words l).length [] ((tput l ++ x).drop (vput (words l).length).length) = (words l, l.flatMap (fun v => whichB (words l) v.t) ++ x, 0) ∧
    rmarks (words l) l.length [] (l.flatMap (fun v => whichB (words l) v.t) ++ x) = (l, x, 0) := by
  have hw := words_le l
  have hv := vget_vput (show (words l).length < 18446744073709551616 by omega) ((words l).flatMap wbytes ++ (l.flatMap (fun v => whichB (words l) v.t) ++ x))
  have hR := rwords_put (words l) [] (l.flatMap (fun v => whichB (words l) v.t) ++ x) (fun w hw => by
    obtain ⟨v, hv, rfl⟩ := words_of hw
    exact (h v hv).2.2)
  have hM := rmarks_put (words l) (by omega) l [] x (fun v hv => ⟨wordsF_mem l [] v hv, (h v hv).1, (h v hv).2.1⟩)
  rw [tput_app, List.drop_left]
  exact ⟨hv, by simpa using hR, by simpa using hM⟩
theorem tget_put {l : List V} (hl : l.length ≤ 65536) (h : ∀ v ∈ l, v.k = 3 ∧ v.n = 0 ∧ v.t.length < 18446744073709551616) (x : List UInt8) : tget (tput l ++ x) l.length = if x = [] then (l, 0) else ([], 21) := by
  obtain ⟨h1, h2, h3⟩ := tget_parts hl h x
  have hw := words_le l
  unfold tget
  rw [h1]; dsimp only
  rw [h2]; dsimp only
  rw [h3]; dsimp only
  rw [if_neg (by simp), if_neg (by omega), if_neg (by simp), if_neg (by simp)]
  by_cases hx : x = []
  · rw [if_pos hx, if_pos (by rw [hx, List.append_nil])]
  · rw [if_neg hx, if_neg (by simp [hx])]
theorem rwords_mem : ∀ (k : Nat) (ws : List (List UInt8)) (b : List UInt8), ∀ w ∈ (rwords k ws b).1, w ∈ ws ∨ w.length ≤ b.length
  | 0, ws, b, w, h => .inl h
  | k + 1, ws, b, w, h => by
    unfold rwords at h
    split at h
    · simp at h
    split at h
    · simp at h
    rcases rwords_mem k _ _ w h with h | h
    · rcases List.mem_append.1 h with h | h
      · exact .inl h
      · simp at h
        right
        rw [h, List.length_take, List.length_drop]; omega
    · right
      rw [List.length_drop] at h; omega
theorem rmarks_form {W : List (List UInt8)} {M : Nat} (hW : ∀ w ∈ W, w.length ≤ M) : ∀ (k : Nat) (out : List V) (b : List UInt8), ∀ v ∈ (rmarks W k out b).1, v ∈ out ∨ (v.k = 3 ∧ v.n = 0 ∧ v.t.length ≤ M)
  | 0, out, b, v, h => .inl h
  | k + 1, out, b, v, h => by
    unfold rmarks at h
    split at h
    · simp at h
    split at h
    · simp at h
    rename_i hlt
    rcases rmarks_form hW k _ _ v h with h | h
    · rcases List.mem_append.1 h with h | h
      · exact .inl h
      · simp only [List.mem_cons, List.not_mem_nil, or_false] at h
        right
        subst h
        refine ⟨rfl, rfl, ?_⟩
        dsimp only
        rw [List.getElem?_eq_getElem (by omega), Option.getD_some]
        exact hW _ (List.getElem_mem _)
    · exact .inr h
theorem tget_inv {b : List UInt8} {n : Nat} {m : List V} (h : tget b n = (m, 0)) : tput m = b ∧ ∀ v ∈ m, v.k = 3 ∧ v.n = 0 ∧ v.t.length ≤ b.length := by
  unfold tget at h
  split at h
  · rename_i h1
    simp only [Prod.mk.injEq] at h
    exact absurd h.2 h1
  split at h
  · simp at h
  split at h
  · rename_i h1
    simp only [Prod.mk.injEq] at h
    exact absurd h.2 h1
  split at h
  · rename_i h1
    simp only [Prod.mk.injEq] at h
    exact absurd h.2 h1
  split at h
  · rename_i h1
    simp only [Prod.mk.injEq] at h
    obtain ⟨rfl, _⟩ := h
    refine ⟨h1, fun v hv => ?_⟩
    have hW : ∀ w ∈ (rwords (vget b).1 [] (b.drop (vget b).2.1)).1, w.length ≤ b.length := fun w hw => by
      rcases rwords_mem _ _ _ w hw with h | h
      · simp at h
      · rw [List.length_drop] at h; omega
    rcases rmarks_form hW _ _ _ v hv with h | h
    · simp at h
    · exact h
  · simp at h
theorem vget_errv (r : List UInt8) : (vget r).2.2 = 0 ∨ (vget r).2.2 = 20 ∨ (vget r).2.2 = 21 := by
  rcases vget_cases r with h | h | h
  · exact .inl h
  · rw [h]; simp
  · rw [h]; simp
theorem rwords_errv : ∀ (k : Nat) (ws : List (List UInt8)) (b : List UInt8), (rwords k ws b).2.2 = 0 ∨ (rwords k ws b).2.2 = 20 ∨ (rwords k ws b).2.2 = 21
  | 0, ws, b => .inl rfl
  | k + 1, ws, b => by
    unfold rwords
    split
    · exact vget_errv _
    split
    · simp
    · exact rwords_errv k _ _
theorem rmarks_errv (W : List (List UInt8)) : ∀ (k : Nat) (out : List V) (b : List UInt8), (rmarks W k out b).2.2 = 0 ∨ (rmarks W k out b).2.2 = 20 ∨ (rmarks W k out b).2.2 = 21
  | 0, ws, b => .inl rfl
  | k + 1, ws, b => by
    unfold rmarks
    split
    · exact vget_errv _
    split
    · simp
    · exact rmarks_errv W k _ _
theorem tget_errv (b : List UInt8) (n : Nat) : (tget b n).2 = 0 ∨ (tget b n).2 = 20 ∨ (tget b n).2 = 21 := by
  unfold tget
  split
  · exact vget_errv _
  split
  · simp
  split
  · exact rwords_errv _ _ _
  split
  · exact rmarks_errv _ _ _ _
  split <;> simp

/-! ### marks of a type -/
theorem tkE_errv (b : List UInt8) (n : Nat) : tkE b n = 0 ∨ tkE b n = 20 ∨ tkE b n = 21 := by
  unfold tkE
  split
  · simp
  · split <;> simp
theorem cread_errv (t : UInt8) (b : List UInt8) (n : Nat) (hn : n ≤ 65536) : (cread t b n).2 = 0 ∨ (cread t b n).2 = 20 ∨ (cread t b n).2 = 21 := by
  unfold cread
  split
  · split
    · exact tkE_errv b n
    · split <;> simp
  split
  · split
    · exact iget_errv b n hn
    · simp
  · exact tget_errv b n
theorem cget_errv {t : UInt8} {b : List UInt8} {n : Int} : (cget t b n).2 = 0 ∨ ((cget t b n).1 = [] ∧ (cget t b n).2 = 1 ∧ (tyok t = false ∨ n < 0 ∨ 65536 < n)) ∨ ((cget t b n).1 = [] ∧ ((cget t b n).2 = 20 ∨ (cget t b n).2 = 21) ∧ tyok t = true ∧ 0 ≤ n ∧ n ≤ 65536) := by
  unfold cget
  by_cases h0 : tyok t = false ∨ n < 0 ∨ 65536 < n
  · rw [if_pos h0]
    exact .inr (.inl ⟨rfl, rfl, h0⟩)
  have h1 : tyok t = true ∧ 0 ≤ n ∧ n ≤ 65536 := by
    refine ⟨?_, by omega, by omega⟩
    cases h : tyok t
    · exact absurd (.inl h) h0
    · rfl
  rw [if_neg h0]
  by_cases h2 : tkE b n.toNat ≠ 0
  · rw [if_pos h2]
    refine .inr (.inr ⟨rfl, ?_, h1⟩)
    rcases tkE_errv b n.toNat with h | h | h
    · exact absurd h h2
    · exact .inl h
    · exact .inr h
  rw [if_neg h2]
  by_cases h3 : (cread t (b.drop (size8 n.toNat)) (zeros b n.toNat)).2 ≠ 0
  · rw [if_pos h3]
    refine .inr (.inr ⟨rfl, ?_, h1⟩)
    rcases cread_errv t (b.drop (size8 n.toNat)) (zeros b n.toNat) (by have := zeros_le b n.toNat; omega) with h | h | h
    · exact absurd h h3
    · exact .inl h
    · exact .inr h
  rw [if_neg h3]
  exact .inl rfl

theorem tyok3 {t : UInt8} (h : tyok t = true) : t.toNat = 1 ∨ t.toNat = 2 ∨ t.toNat = 3 := by
  unfold tyok at h; simp at h; omega
/-- marks of a type: what is asked -/
def mk (t : UInt8) (m : List V) : Prop := ∀ v ∈ m, v.k = t.toNat ∧ mayB v = true ∧ vsz v
theorem cread_put {t : UInt8} (ht : tyok t = true) {m : List V} (hl : m.length ≤ 65536) (hm : mk t m) (x : List UInt8) :
    (x = [] → cread t (cbody t m ++ x) m.length = (m, 0)) ∧ (x ≠ [] → (cread t (cbody t m ++ x) m.length).2 ≠ 0) := by
  rcases tyok3 ht with h1 | h2 | h3
  · have hf : ∀ v ∈ m, v.k = 1 ∧ (v.n = 0 ∨ v.n = 1) ∧ v.t = [] := fun v hv => by
      obtain ⟨a, b, c⟩ := hm v hv
      rcases mayB_k b with ⟨h, _⟩ | h | ⟨h, _⟩ | ⟨h, _⟩
      · omega
      · exact h
      all_goals omega
    rw [show cbody t m = bitsN m.length (truthAt m) by unfold cbody; rw [if_pos h1]]
    unfold cread
    rw [if_pos h1, if_neg (by rw [tkE_bits]; simp)]
    have hlen : (bitsN m.length (truthAt m) ++ x).length = size8 m.length + x.length := by rw [List.length_append, bitsN_len]
    constructor
    · rintro rfl
      rw [if_neg (by rw [hlen]; simp), truths_back hf]
      intro i v hv
      rw [bitsN_val _ _ (List.getElem?_eq_some_iff.1 hv).1, truthAt_of hv]
    · intro hx
      have : 0 < x.length := List.length_pos_iff.2 hx
      rw [if_pos (by rw [hlen]; omega)]
      simp
  · have hf : ∀ v ∈ m, v.k = 2 ∧ v.t = [] ∧ i64r v.n := fun v hv => by
      obtain ⟨a, b, c⟩ := hm v hv
      rcases mayB_k b with ⟨h, _⟩ | ⟨h, _⟩ | h | ⟨h, _⟩
      · omega
      · omega
      · exact ⟨h.1, h.2, c.1⟩
      · omega
    have hi : ∀ n ∈ m.map V.n, In.i64 n := fun n hn => by
      obtain ⟨v, hv, rfl⟩ := List.mem_map.1 hn
      exact (hf v hv).2.2
    have hml : (m.map V.n).length = m.length := List.length_map ..
    rw [show cbody t m = In.iput (m.map V.n) by unfold cbody; rw [if_neg (by omega), if_pos h2]]
    unfold cread
    rw [if_neg (by omega), if_pos h2]
    constructor
    · rintro rfl
      rw [List.append_nil]
      have := (In.iget_iput (m.map V.n) hi (by omega) 0).1
      rw [hml] at this
      rw [this, if_neg (by simp)]
      dsimp only
      rw [List.map_map]
      congr 1
      conv => rhs; rw [← List.map_id m]
      refine List.map_congr_left fun v hv => ?_
      obtain ⟨a, b, _⟩ := hf v hv
      obtain ⟨k, n, tx⟩ := v
      dsimp only at a b
      subst a b
      rfl
    · intro hx
      have := iget_more (m.map V.n) hi (by omega) hx
      rw [hml] at this
      rw [if_pos this]
      exact this
  · have hf : ∀ v ∈ m, v.k = 3 ∧ v.n = 0 ∧ v.t.length < 18446744073709551616 := fun v hv => by
      obtain ⟨a, b, c⟩ := hm v hv
      rcases mayB_k b with ⟨h, _⟩ | ⟨h, _⟩ | ⟨h, _⟩ | h
      · omega
      · omega
      · omega
      · exact ⟨h.1, h.2, c.2⟩
    have := tget_put hl hf x
    rw [show cbody t m = tput m by unfold cbody; rw [if_neg (by omega), if_neg (by omega)]]
    unfold cread
    rw [if_neg (by omega), if_neg (by omega), this]
    constructor
    · intro hx; rw [if_pos hx]
    · intro hx; rw [if_neg hx]; simp
theorem marks_mk {t : UInt8} {l : List V} (h : colok t l = true) (hs : ∀ v ∈ l, vsz v) : mk t (marks l) := fun v hv => by
  obtain ⟨h1, h2⟩ := mem_marks.1 hv
  obtain ⟨h3, h4⟩ := rmay_k ((colok_parts h).2.2 v h1) h2
  exact ⟨h3, h4, hs v h1⟩
theorem marks_len (l : List V) : (marks l).length ≤ l.length := List.length_filter_le _ _
theorem cput_of {t : UInt8} {l : List V} (h : colok t l = true) : cput t l = (bitsN l.length (nullAt l) ++ cbody t (marks l), 0) := by unfold cput; rw [if_pos h]
theorem cput_no {t : UInt8} {l : List V} (h : colok t l = false) : cput t l = ([], 1) := by unfold cput; rw [if_neg (by simp [h])]
/-- THERE AND BACK; with more behind it is none -/
theorem cget_put {t : UInt8} {l : List V} (h : colok t l = true) (hs : ∀ v ∈ l, vsz v) (x : List UInt8) :
    (x = [] → cget t ((cput t l).1 ++ x) l.length = (l, 0)) ∧ (x ≠ [] → (cget t ((cput t l).1 ++ x) l.length).2 ≠ 0) := by
  obtain ⟨ht, hl, hm⟩ := colok_parts h
  rw [cput_of h]
  dsimp only
  rw [List.append_assoc]
  obtain ⟨y, hy⟩ : ∃ y, y = cbody t (marks l) ++ x := ⟨_, rfl⟩
  rw [← hy]
  have hbit : ∀ j v, l[j]? = some v → bitAt (bitsN l.length (nullAt l) ++ y) j = isNull v := fun j v hv => by
    rw [bitsN_val _ _ (List.getElem?_eq_some_iff.1 hv).1, nullAt_of hv]
  have hz : zeros (bitsN l.length (nullAt l) ++ y) l.length = (marks l).length := by
    rw [zeros_marks hbit l.length (Nat.le_refl _), List.take_length]
  have hd : (bitsN l.length (nullAt l) ++ y).drop (size8 l.length) = y := by
    rw [← bitsN_len l.length (nullAt l), List.drop_left]
  have hc : cget t (bitsN l.length (nullAt l) ++ y) l.length = if (cread t y (marks l).length).2 ≠ 0 then ([], (cread t y (marks l).length).2) else (merge (bitsN l.length (nullAt l) ++ y) 0 l.length (cread t y (marks l).length).1, 0) := by
    unfold cget
    rw [if_neg (by rw [ht]; simp; omega), Int.toNat_natCast, if_neg (by rw [tkE_bits]; simp), hz, hd]
  obtain ⟨c1, c2⟩ := cread_put ht (m := marks l) (by have := marks_len l; omega) (marks_mk h hs) x
  rw [← hy] at c1 c2
  rw [hc]
  constructor
  · intro hx
    rw [c1 hx, if_neg (by simp)]
    dsimp only
    rw [merge_back l 0 (fun j v hv => by rw [Nat.zero_add]; exact hbit j v hv) (fun v hv h0 => rmay_null (hm v hv) h0)]
  · intro hx
    rw [if_pos (c2 hx)]
    exact c2 hx

/-! ### and what is got is put as the same bytes -/
theorem zeros_step {b : List UInt8} (i k : Nat) : zeros b i ≤ zeros b (i + k) := zeros_mono b (by omega)
theorem merge_mem {b : List UInt8} : ∀ (k i : Nat) (l : List V), ∀ v ∈ merge b i k l, v = null ∨ v ∈ l
  | 0, i, l, v, h => by simp [merge] at h
  | k + 1, i, l, v, h => by
    unfold merge at h
    split at h
    · rcases List.mem_cons.1 h with h | h
      · exact .inl h
      · exact merge_mem k _ _ v h
    · rcases List.mem_cons.1 h with h | h
      · cases l with
        | nil => exact .inl h
        | cons u l => exact .inr (by rw [h]; exact List.mem_cons_self ..)
      · rcases merge_mem k _ _ v h with h | h
        · exact .inl h
        · exact .inr (List.mem_of_mem_tail h)
theorem merge_parts {b : List UInt8} : ∀ (k i : Nat) (l : List V), zeros b i + l.length = zeros b (i + k) → (∀ v ∈ l, v.k ≠ 0) → marks (merge b i k l) = l ∧ ∀ j, j < k → nullAt (merge b i k l) j = bitAt b (i + j)
  | 0, i, l, h, hn => by
    have : l = [] := List.eq_nil_of_length_eq_zero (by rw [Nat.add_zero] at h; omega)
    subst this
    exact ⟨rfl, fun j hj => by omega⟩
  | k + 1, i, l, h, hn => by
    have hs := zeros_snoc b i
    have hm := zeros_step (b := b) (i + 1) k
    rw [show i + 1 + k = i + (k + 1) by omega] at hm
    cases hb : bitAt b i
    · rw [hb] at hs
      simp at hs
      cases l with
      | nil => simp at h; omega
      | cons v l =>
        simp only [List.length_cons] at h
        obtain ⟨a1, a2⟩ := merge_parts (b := b) k (i + 1) l (by rw [show i + 1 + k = i + (k + 1) by omega]; omega) (fun u hu => hn u (List.mem_cons_of_mem _ hu))
        have hv := hn v (List.mem_cons_self ..)
        rw [merge_mark hb]
        refine ⟨by rw [marks_cons1 _ hv, a1], fun j hj => ?_⟩
        cases j with
        | zero => rw [nullAt_of (v := v) rfl, Nat.add_zero, hb, isNull_f hv]
        | succ j =>
          have := a2 j (by omega)
          rw [show i + (j + 1) = i + 1 + j by omega, ← this]; rfl
    · rw [hb] at hs
      simp at hs
      obtain ⟨a1, a2⟩ := merge_parts (b := b) k (i + 1) l (by rw [show i + 1 + k = i + (k + 1) by omega]; omega) hn
      rw [merge_null hb]
      refine ⟨by rw [marks_cons0 _ rfl, a1], fun j hj => ?_⟩
      cases j with
      | zero => rw [nullAt_of (v := null) rfl, Nat.add_zero, hb]; rfl
      | succ j =>
        have := a2 j (by omega)
        rw [show i + (j + 1) = i + 1 + j by omega, ← this]; rfl
theorem bits_whole {b : List UInt8} {n : Nat} {p : Nat → Bool} (h : tkE b n = 0) (hp : ∀ j, j < n → p j = bitAt b j) : bitsN n p = b.take (size8 n) ∧ size8 n ≤ b.length := by
  unfold tkE at h
  split at h
  · simp at h
  rename_i h1
  split at h
  · simp at h
  rename_i h2
  refine ⟨?_, by omega⟩
  rw [bitsN_congr hp]
  exact (bits_eq (by omega)).2 (by simpa using h2)
theorem cread_inv {t : UInt8} (ht : tyok t = true) {b : List UInt8} {n : Nat} {m : List V} (h : cread t b n = (m, 0)) : cbody t m = b ∧ m.length = n ∧ ∀ v ∈ m, v.k = t.toNat ∧ mayB v = true ∧ i64r v.n ∧ v.t.length ≤ b.length := by
  have hl : m.length = n := by
    have := @cread_len t b n (by rw [h])
    rw [h] at this; exact this
  unfold cread at h
  rcases tyok3 ht with h1 | h1 | h1
  · rw [if_pos h1] at h
    split at h
    · rename_i h2
      simp only [Prod.mk.injEq] at h
      exact absurd h.2 h2
    split at h
    · simp at h
    rename_i h2 h3
    simp only [Prod.mk.injEq, and_true] at h
    subst h
    have htr : ∀ j, j < n → truthAt (truthsOf b n) j = bitAt b j := fun j hj => by
      have hg : (truthsOf b n)[j]? = some ⟨1, if bitAt b j then 1 else 0, []⟩ := by
        unfold truthsOf
        rw [List.getElem?_map, List.getElem?_range hj]; rfl
      rw [truthAt_of hg]
      cases bitAt b j <;> simp
    obtain ⟨w1, w2⟩ := bits_whole (by simpa using h2) htr
    refine ⟨?_, hl, fun v hv => ?_⟩
    · unfold cbody
      rw [if_pos h1, hl, w1, List.take_of_length_le (by omega)]
    · unfold truthsOf at hv
      obtain ⟨i, hi, rfl⟩ := List.mem_map.1 hv
      refine ⟨h1.symm, ?_, ?_, by simp⟩
      · unfold mayB; cases bitAt b i <;> simp
      · unfold i64r; dsimp only; split <;> omega
  · rw [if_neg (by omega), if_pos h1] at h
    split at h
    · rename_i h2
      simp only [Prod.mk.injEq] at h
      exact absurd h.2 h2
    rename_i h2
    simp only [Prod.mk.injEq, and_true] at h
    subst h
    obtain ⟨p1, p2, p3, p4, p5⟩ := In.iput_iget b n (Decidable.not_not.1 h2)
    refine ⟨?_, hl, fun v hv => ?_⟩
    · unfold cbody
      rw [if_neg (by omega), if_pos h1, List.map_map]
      have : (V.n ∘ fun v : Int => (⟨2, v, []⟩ : V)) = id := by funext v; rfl
      rw [this, List.map_id]; exact p4
    · obtain ⟨i, hi, rfl⟩ := List.mem_map.1 hv
      exact ⟨h1.symm, by unfold mayB; simp, p5 i hi, by simp⟩
  · rw [if_neg (by omega), if_neg (by omega)] at h
    obtain ⟨q1, q2⟩ := tget_inv h
    refine ⟨?_, hl, fun v hv => ?_⟩
    · unfold cbody
      rw [if_neg (by omega), if_neg (by omega)]; exact q1
    · obtain ⟨a, b', c⟩ := q2 v hv
      refine ⟨by omega, ?_, by rw [b']; unfold i64r; omega, c⟩
      obtain ⟨k, n', tx⟩ := v
      dsimp only at a b'
      subst a b'
      unfold mayB; simp
theorem cget_inv {t : UInt8} {b : List UInt8} {n : Int} {m : List V} (h : cget t b n = (m, 0)) :
    tyok t = true ∧ 0 ≤ n ∧ n ≤ 65536 ∧ (m.length : Int) = n ∧ colok t m = true ∧ cput t m = (b, 0) ∧ ∀ v ∈ m, v.k < 256 ∧ i64r v.n ∧ v.t.length ≤ b.length := by
  unfold cget at h
  split at h
  · simp at h
  rename_i h0
  have ht : tyok t = true := by
    cases h : tyok t
    · exact absurd (.inl h) h0
    · rfl
  have hn : 0 ≤ n ∧ n ≤ 65536 := by omega
  split at h
  · rename_i h2
    simp only [Prod.mk.injEq] at h
    exact absurd h.2 h2
  rename_i h2
  split at h
  · rename_i h3
    simp only [Prod.mk.injEq] at h
    exact absurd h.2 h3
  rename_i h3
  simp only [Prod.mk.injEq, and_true] at h
  obtain ⟨k, hk⟩ : ∃ k, k = n.toNat := ⟨_, rfl⟩
  rw [← hk] at h h2 h3
  obtain ⟨z, hz⟩ : ∃ z, z = zeros b k := ⟨_, rfl⟩
  rw [← hz] at h h3
  obtain ⟨c1, c2, c3⟩ := cread_inv ht (b := b.drop (size8 k)) (n := z) (m := (cread t (b.drop (size8 k)) z).1) (Prod.ext rfl (Decidable.not_not.1 h3))
  obtain ⟨lm, hlm⟩ : ∃ lm, lm = (cread t (b.drop (size8 k)) z).1 := ⟨_, rfl⟩
  rw [← hlm] at h c1 c2 c3
  have hml : m.length = k := by rw [← h, merge_len]
  obtain ⟨m1, m2⟩ := merge_parts (b := b) k 0 lm (by rw [Nat.zero_add, c2, hz]; simp [zeros]) (fun v hv => by rw [(c3 v hv).1]; have := tyok3 ht; omega)
  rw [h] at m1 m2
  have hmem : ∀ v ∈ m, v = null ∨ v ∈ lm := fun v hv => by rw [← h] at hv; exact merge_mem k 0 lm v hv
  have hck : colok t m = true := by
    unfold colok
    rw [ht, hml]
    simp only [Bool.true_and, Bool.and_eq_true, decide_eq_true_eq, List.all_eq_true]
    refine ⟨by omega, fun v hv => ?_⟩
    rcases hmem v hv with rfl | hv
    · unfold rmay mayB null; simp
    · obtain ⟨a1, a2, _⟩ := c3 v hv
      unfold rmay; rw [a2, a1]; simp
  obtain ⟨w1, w2⟩ := bits_whole (b := b) (n := k) (p := nullAt m) (by simpa using h2) (fun j hj => by have := m2 j hj; rw [Nat.zero_add] at this; exact this)
  refine ⟨ht, hn.1, hn.2, by omega, hck, ?_, fun v hv => ?_⟩
  · rw [cput_of hck, hml, w1, m1, c1, List.take_append_drop]
  · rcases hmem v hv with rfl | hv
    · exact ⟨by decide, by unfold i64r null; dsimp only; omega, by simp [null]⟩
    · obtain ⟨a1, a2, a3, a4⟩ := c3 v hv
      rw [List.length_drop] at a4
      exact ⟨by rw [a1]; exact t.toNat_lt, a3, by omega⟩
theorem cput_inj {t : UInt8} {l m : List V} (hl : colok t l = true) (hm : colok t m = true) (hsl : ∀ v ∈ l, vsz v) (hsm : ∀ v ∈ m, vsz v) (hlen : l.length = m.length) (h : (cput t l).1 = (cput t m).1) : l = m := by
  have h1 := (cget_put hl hsl []).1 rfl
  have h2 := (cget_put hm hsm []).1 rfl
  rw [h, hlen, h2] at h1
  exact (Prod.mk.inj h1).1.symm
theorem cget_cut {t : UInt8} {l : List V} (h : colok t l = true) (hs : ∀ v ∈ l, vsz v) {k : Nat} (hk : k < (cput t l).1.length) (hb : (cput t l).1.length < 18446744073709551616) : (cget t ((cput t l).1.take k) l.length).2 ≠ 0 := by
  intro h0
  obtain ⟨m, hm⟩ : ∃ m, cget t ((cput t l).1.take k) l.length = (m, 0) := ⟨_, Prod.ext rfl h0⟩
  obtain ⟨_, _, _, i1, i2, i3, i4⟩ := cget_inv hm
  have hsm : ∀ v ∈ m, vsz v := fun v hv => ⟨(i4 v hv).2.1, by have := (i4 v hv).2.2; rw [List.length_take] at this; omega⟩
  have h2 := (cget_put i2 hsm ((cput t l).1.drop k)).2 (by
    intro e
    have := congrArg List.length e
    rw [List.length_drop, List.length_nil] at this; omega)
  rw [i3] at h2
  dsimp only at h2
  rw [List.take_append_drop, i1] at h2
  have h1 := (cget_put h hs []).1 rfl
  rw [List.append_nil] at h1
  rw [h1] at h2
  exact h2 rfl
end Go.Proofs.Ythkpgjcnnfdibaa

/-! Plain: the bytes of texts are those of what is read just if nothing is left and each word comes first in its place (layer 6). No program in sight. -/
namespace Go.Proofs.Ythkpgjcnnfdibaa
open Go.RowKit
set_option linter.unusedVariables false

theorem vget_cut {b : List UInt8} {v k : Nat} (h : vget b = (v, k, 0)) : b = vput v ++ b.drop k := by
  obtain ⟨_, _, _, h1, _⟩ := vget_ok h
  rw [h1, List.take_append_drop]
theorem vget_eta {b : List UInt8} (h : (vget b).2.2 = 0) : vget b = ((vget b).1, (vget b).2.1, 0) := Prod.ext rfl (Prod.ext rfl h)
theorem rwords_inv : ∀ (k : Nat) (ws0 ws : List (List UInt8)) (b r : List UInt8), rwords k ws0 b = (ws, r, 0) → ∃ ws1, ws = ws0 ++ ws1 ∧ ws1.length = k ∧ b = ws1.flatMap wbytes ++ r
  | 0, ws0, ws, b, r, h => by
    simp only [rwords, Prod.mk.injEq, and_true] at h
    obtain ⟨rfl, rfl⟩ := h
    exact ⟨[], by simp⟩
  | k + 1, ws0, ws, b, r, h => by
    unfold rwords at h
    split at h
    · rename_i h1
      simp only [Prod.mk.injEq] at h
      exact absurd h.2.2 h1
    split at h
    · simp at h
    rename_i h1 h2
    obtain ⟨ws1, e1, e2, e3⟩ := rwords_inv k _ _ _ _ h
    have hc := vget_cut (vget_eta (Decidable.not_not.1 h1))
    obtain ⟨n, hn⟩ : ∃ n, n = (vget b).2.1 := ⟨_, rfl⟩
    obtain ⟨sz, hs⟩ : ∃ n, n = (vget b).1 := ⟨_, rfl⟩
    rw [← hn, ← hs] at hc e1 e3 h2
    refine ⟨(b.drop n).take sz :: ws1, by rw [e1]; simp, by simp [e2], ?_⟩
    have hl : ((b.drop n).take sz).length = sz := by rw [List.length_take, List.length_drop]; omega
    rw [List.flatMap_cons]
    unfold wbytes
    rw [hl]
    conv => lhs; rw [hc]
    rw [List.append_assoc, List.append_assoc]
    congr 1
    rw [← List.drop_drop] at e3
    rw [show (ws1.flatMap fun w => vput w.length ++ w) = ws1.flatMap wbytes from rfl, ← e3, List.take_append_drop]
theorem rmarks_inv {ws : List (List UInt8)} (hnd : ∀ i t, ws[i]? = some t → ws.idxOf t = i) : ∀ (k : Nat) (o0 out : List V) (b r : List UInt8), rmarks ws k o0 b = (out, r, 0) →
    ∃ o1, out = o0 ++ o1 ∧ o1.length = k ∧ b = (o1.flatMap fun v => whichB ws v.t) ++ r
  | 0, o0, out, b, r, h => by
    simp only [rmarks, Prod.mk.injEq, and_true] at h
    obtain ⟨rfl, rfl⟩ := h
    exact ⟨[], by simp⟩
  | k + 1, o0, out, b, r, h => by
    unfold rmarks at h
    split at h
    · rename_i h1
      simp only [Prod.mk.injEq] at h
      exact absurd h.2.2 h1
    split at h
    · simp at h
    rename_i h1 h2
    obtain ⟨o1, e1, e2, e3⟩ := rmarks_inv hnd k _ _ _ _ h
    have hc := vget_cut (vget_eta (Decidable.not_not.1 h1))
    obtain ⟨y, hy⟩ : ∃ y, y = (vget b).1 := ⟨_, rfl⟩
    rw [← hy] at hc e1 h2
    obtain ⟨t, ht⟩ : ∃ t, ws[y]? = some t := ⟨_, List.getElem?_eq_getElem (by omega)⟩
    rw [ht, Option.getD_some] at e1
    refine ⟨⟨3, 0, t⟩ :: o1, by rw [e1]; simp, by simp [e2], ?_⟩
    rw [List.flatMap_cons]
    conv => lhs; rw [hc]
    unfold whichB
    dsimp only
    rw [hnd y t ht, List.append_assoc]
    congr 1
theorem addWord_nodup {ws : List (List UInt8)} {t : List UInt8} (h : ws.Nodup) : (addWord ws t).Nodup := by
  unfold addWord
  split
  · exact h
  · rename_i hn
    rw [List.nodup_append]
    refine ⟨h, by simp, fun a ha b hb => ?_⟩
    simp at hb
    rintro rfl
    exact hn (hb ▸ ha)
theorem wordsF_nodup : ∀ (l : List V) (ws : List (List UInt8)), ws.Nodup → (wordsF ws l).Nodup
  | [], ws, h => h
  | v :: l, ws, h => wordsF_nodup l _ (addWord_nodup h)
theorem idx_nodup {ws : List (List UInt8)} (h : ws.Nodup) (i : Nat) (t : List UInt8) (hi : ws[i]? = some t) : ws.idxOf t = i := by
  have hlt : i < ws.length := (List.getElem?_eq_some_iff.1 hi).1
  have hm : t ∈ ws := List.mem_of_getElem? hi
  have hj : ws.idxOf t < ws.length := List.idxOf_lt_length_iff.2 hm
  have hg : ws[ws.idxOf t]'hj = t := List.getElem_idxOf hj
  have hi2 : ws[i] = t := by rw [List.getElem?_eq_getElem hlt] at hi; exact Option.some.inj hi
  rcases Nat.lt_trichotomy (ws.idxOf t) i with h1 | h1 | h1
  · exact absurd (hg.trans hi2.symm) (List.pairwise_iff_getElem.1 h _ _ hj hlt h1)
  · exact h1
  · exact absurd (hi2.trans hg.symm) (List.pairwise_iff_getElem.1 h _ _ hlt hj h1)
theorem tput_iff {b r r' : List UInt8} {ws : List (List UInt8)} {n m k : Nat} {out : List V} (hn : n ≤ 65536) (hb : b.length < 18446744073709551616) (h1 : vget b = (m, k, 0)) (h2 : rwords m [] (b.drop k) = (ws, r, 0)) (h3 : rmarks ws n [] r = (out, r', 0)) :
    tput out = b ↔ (r' = [] ∧ words out = ws) := by
  obtain ⟨ws1, e1, e2, e3⟩ := rwords_inv m [] ws _ _ h2
  rw [List.nil_append] at e1
  subst e1
  have hW : ∀ w ∈ ws, w.length ≤ b.length := fun w hw => by
    have := rwords_mem m [] (b.drop k) w (by rw [h2]; exact hw)
    rcases this with h | h
    · simp at h
    · rw [List.length_drop] at h; omega
  have hform : ∀ v ∈ out, v.k = 3 ∧ v.n = 0 ∧ v.t.length ≤ b.length := fun v hv => by
    have := rmarks_form hW n [] r v (by rw [h3]; exact hv)
    rcases this with h | h
    · simp at h
    · exact h
  have hlen : out.length = n := by
    have := @rmarks_len ws n [] r (by rw [h3])
    rw [h3] at this
    simpa using this
  constructor
  · intro h
    obtain ⟨p1, p2, p3⟩ := tget_parts (l := out) (by omega) (fun v hv => ⟨(hform v hv).1, (hform v hv).2.1, by have := (hform v hv).2.2; omega⟩) []
    rw [List.append_nil, h] at p1 p2
    rw [h1] at p1
    simp only [Prod.mk.injEq, and_true] at p1
    rw [p1.1, p1.2] at h2
    rw [p2] at h2
    simp only [Prod.mk.injEq, and_true] at h2
    have hr := h2.2
    rw [h2.1] at hr
    rw [hlen, h2.1, hr, h3] at p3
    simp only [Prod.mk.injEq, and_true, true_and] at p3
    exact ⟨p3, h2.1⟩
  · rintro ⟨h4, h5⟩
    have hnd : ∀ i t, ws[i]? = some t → ws.idxOf t = i := fun i t hi => idx_nodup (by rw [← h5]; exact wordsF_nodup out [] List.nodup_nil) i t hi
    obtain ⟨o1, f1, f2, f3⟩ := rmarks_inv hnd n [] out r r' h3
    rw [List.nil_append] at f1
    subst f1
    rw [h4, List.append_nil] at f3
    have hc := vget_cut h1
    unfold tput
    rw [h5, e2, ← f3, ← e3]
    exact hc.symm
end Go.Proofs.Ythkpgjcnnfdibaa

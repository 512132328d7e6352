/- Plain: words in the order in which they come first (layer 6). No program in sight. -/
import Derived.Test.YtiijnfakphhbeaaColP2
namespace Go.Proofs.Ytiijnfakphhbeaa
open Go.RowKit
set_option linter.unusedVariables false

theorem addWord_pre (ws : List (List UInt8)) (t : List UInt8) : ws <+: addWord ws t := by
  unfold addWord; split
  · exact List.prefix_refl _
  · exact List.prefix_append _ _
theorem addWord_mem (ws : List (List UInt8)) (t : List UInt8) : t ∈ addWord ws t := by
  unfold addWord; split
  · assumption
  · simp
theorem wordsF_pre : ∀ (l : List V) (ws : List (List UInt8)), ws <+: wordsF ws l
  | [], ws => List.prefix_refl _
  | v :: l, ws => (addWord_pre ws v.t).trans (wordsF_pre l (addWord ws v.t))
theorem wordsF_app (ws : List (List UInt8)) (l m : List V) : wordsF ws (l ++ m) = wordsF (wordsF ws l) m := List.foldl_append
theorem words_snoc {l : List V} {k : Nat} {v : V} (h : l[k]? = some v) : words (l.take (k + 1)) = addWord (words (l.take k)) v.t := by
  unfold words
  rw [List.take_add_one, h, wordsF_app]; rfl
theorem words_take (l : List V) (k : Nat) : words (l.take k) <+: words l := by
  unfold words
  have e : wordsF [] l = wordsF (wordsF [] (l.take k)) (l.drop k) := by rw [← wordsF_app, List.take_append_drop]
  rw [e]; exact wordsF_pre _ _
theorem flat_pre {ws us : List (List UInt8)} (h : ws <+: us) : (ws.flatMap wbytes).length ≤ (us.flatMap wbytes).length := by
  obtain ⟨r, rfl⟩ := h
  rw [List.flatMap_append, List.length_append]; omega
theorem idx_pre {ws us : List (List UInt8)} {t : List UInt8} (h : ws <+: us) (hm : t ∈ ws) : us.idxOf t = ws.idxOf t := by
  obtain ⟨r, rfl⟩ := h
  rw [List.idxOf_append, if_pos hm]
theorem wordsF_mem : ∀ (l : List V) (ws : List (List UInt8)), ∀ v ∈ l, v.t ∈ wordsF ws l
  | x :: l, ws, v, h => by
    rcases List.mem_cons.1 h with rfl | h
    · exact (wordsF_pre l _).subset (addWord_mem ws _)
    · exact wordsF_mem l _ v h
theorem wordsF_of : ∀ (l : List V) (ws : List (List UInt8)) (t : List UInt8), t ∈ wordsF ws l → t ∈ ws ∨ ∃ v ∈ l, v.t = t
  | [], ws, t, h => Or.inl h
  | x :: l, ws, t, h => by
    rcases wordsF_of l _ t h with h | ⟨v, hv, e⟩
    · have h : t ∈ addWord ws x.t := h
      unfold addWord at h
      split at h
      · exact Or.inl h
      · rcases List.mem_append.1 h with h | h
        · exact Or.inl h
        · simp at h; exact Or.inr ⟨x, List.mem_cons_self, h.symm⟩
    · exact Or.inr ⟨v, List.mem_cons_of_mem _ hv, e⟩
theorem wordsF_len : ∀ (l : List V) (ws : List (List UInt8)), (wordsF ws l).length ≤ ws.length + l.length
  | [], ws => by simp [wordsF]
  | x :: l, ws => by
    have h := wordsF_len l (addWord ws x.t)
    have : (addWord ws x.t).length ≤ ws.length + 1 := by unfold addWord; split <;> simp
    have e : wordsF ws (x :: l) = wordsF (addWord ws x.t) l := rfl
    rw [e]; simp; omega
theorem which_snoc {l : List V} {k : Nat} {v : V} (h : l[k]? = some v) :
    (l.take (k + 1)).flatMap (fun v => whichB (words (l.take (k + 1))) v.t) = (l.take k).flatMap (fun v => whichB (words (l.take k)) v.t) ++ whichB (words (l.take (k + 1))) v.t := by
  have h1 : l.take (k + 1) = l.take k ++ [v] := by rw [List.take_add_one, h]; rfl
  have h2 : ∀ u ∈ l.take k, whichB (words (l.take (k + 1))) u.t = whichB (words (l.take k)) u.t := fun u hu => by
    unfold whichB
    rw [words_snoc h, idx_pre (addWord_pre _ _) (show u.t ∈ words (l.take k) from wordsF_mem _ _ u hu)]
  conv => lhs; rw [h1, List.flatMap_append, ← h1]
  congr 1
  · rw [List.flatMap_def, List.flatMap_def, List.map_congr_left h2]
  · simp
theorem flat_snoc (ws : List (List UInt8)) (t : List UInt8) : (ws ++ [t]).flatMap wbytes = ws.flatMap wbytes ++ (vput t.length ++ t) := by
  rw [List.flatMap_append]; simp [wbytes]
end Go.Proofs.Ytiijnfakphhbeaa

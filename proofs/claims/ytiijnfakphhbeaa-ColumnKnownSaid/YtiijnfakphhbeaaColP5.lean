/- Plain: the bytes of texts are those of what is read just if nothing is left and each word comes first in its place (layer 6). No program in sight. -/
import Derived.Test.YtiijnfakphhbeaaColQ
namespace Go.Proofs.Ytiijnfakphhbeaa
open Go.RowKit
set_option linter.unusedVariables false

theorem vget_cut {b : List UInt8} {v k : Nat} (h : vget b = (v, k, 0)) : b = vput v ++ b.drop k := by
  obtain ⟨_, _, _, h1, _⟩ := vget_ok h
  rw [h1, List.take_append_drop]
theorem vget_eta {b : List UInt8} (h : (vget b).2.2 = 0) : vget b = ((vget b).1, (vget b).2.1, 0) := Prod.ext rfl (Prod.ext rfl h)
theorem rwords_inv : ∀ (k : Nat) (ws0 ws : List (List UInt8)) (b r : List UInt8), rwords k ws0 b = (ws, r, 0) → ∃ ws1, ws = ws0 ++ ws1 ∧ ws1.length = k ∧ b = ws1.flatMap wbytes ++ r
  | 0, ws0, ws, b, r, h => by
    simp only [rwords, Prod.mk.injEq, and_true] at h
    obtain ⟨rfl, rfl⟩ := h
    exact ⟨[], by simp⟩
  | k + 1, ws0, ws, b, r, h => by
    unfold rwords at h
    split at h
    · rename_i h1
      simp only [Prod.mk.injEq] at h
      exact absurd h.2.2 h1
    split at h
    · simp at h
    rename_i h1 h2
    obtain ⟨ws1, e1, e2, e3⟩ := rwords_inv k _ _ _ _ h
    have hc := vget_cut (vget_eta (Decidable.not_not.1 h1))
    obtain ⟨n, hn⟩ : ∃ n, n = (vget b).2.1 := ⟨_, rfl⟩
    obtain ⟨sz, hs⟩ : ∃ n, n = (vget b).1 := ⟨_, rfl⟩
    rw [← hn, ← hs] at hc e1 e3 h2
    refine ⟨(b.drop n).take sz :: ws1, by rw [e1]; simp, by simp [e2], ?_⟩
    have hl : ((b.drop n).take sz).length = sz := by rw [List.length_take, List.length_drop]; omega
    rw [List.flatMap_cons]
    unfold wbytes
    rw [hl]
    conv => lhs; rw [hc]
    rw [List.append_assoc, List.append_assoc]
    congr 1
    rw [← List.drop_drop] at e3
    rw [show (ws1.flatMap fun w => vput w.length ++ w) = ws1.flatMap wbytes from rfl, ← e3, List.take_append_drop]
theorem rmarks_inv {ws : List (List UInt8)} (hnd : ∀ i t, ws[i]? = some t → ws.idxOf t = i) : ∀ (k : Nat) (o0 out : List V) (b r : List UInt8), rmarks ws k o0 b = (out, r, 0) →
    ∃ o1, out = o0 ++ o1 ∧ o1.length = k ∧ b = (o1.flatMap fun v => whichB ws v.t) ++ r
  | 0, o0, out, b, r, h => by
    simp only [rmarks, Prod.mk.injEq, and_true] at h
    obtain ⟨rfl, rfl⟩ := h
    exact ⟨[], by simp⟩
  | k + 1, o0, out, b, r, h => by
    unfold rmarks at h
    split at h
    · rename_i h1
      simp only [Prod.mk.injEq] at h
      exact absurd h.2.2 h1
    split at h
    · simp at h
    rename_i h1 h2
    obtain ⟨o1, e1, e2, e3⟩ := rmarks_inv hnd k _ _ _ _ h
    have hc := vget_cut (vget_eta (Decidable.not_not.1 h1))
    obtain ⟨y, hy⟩ : ∃ y, y = (vget b).1 := ⟨_, rfl⟩
    rw [← hy] at hc e1 h2
    obtain ⟨t, ht⟩ : ∃ t, ws[y]? = some t := ⟨_, List.getElem?_eq_getElem (by omega)⟩
    rw [ht, Option.getD_some] at e1
    refine ⟨⟨3, 0, t⟩ :: o1, by rw [e1]; simp, by simp [e2], ?_⟩
    rw [List.flatMap_cons]
    conv => lhs; rw [hc]
    unfold whichB
    dsimp only
    rw [hnd y t ht, List.append_assoc]
    congr 1
theorem addWord_nodup {ws : List (List UInt8)} {t : List UInt8} (h : ws.Nodup) : (addWord ws t).Nodup := by
  unfold addWord
  split
  · exact h
  · rename_i hn
    rw [List.nodup_append]
    refine ⟨h, by simp, fun a ha b hb => ?_⟩
    simp at hb
    rintro rfl
    exact hn (hb ▸ ha)
theorem wordsF_nodup : ∀ (l : List V) (ws : List (List UInt8)), ws.Nodup → (wordsF ws l).Nodup
  | [], ws, h => h
  | v :: l, ws, h => wordsF_nodup l _ (addWord_nodup h)
theorem idx_nodup {ws : List (List UInt8)} (h : ws.Nodup) (i : Nat) (t : List UInt8) (hi : ws[i]? = some t) : ws.idxOf t = i := by
  have hlt : i < ws.length := (List.getElem?_eq_some_iff.1 hi).1
  have hm : t ∈ ws := List.mem_of_getElem? hi
  have hj : ws.idxOf t < ws.length := List.idxOf_lt_length_iff.2 hm
  have hg : ws[ws.idxOf t]'hj = t := List.getElem_idxOf hj
  have hi2 : ws[i] = t := by rw [List.getElem?_eq_getElem hlt] at hi; exact Option.some.inj hi
  rcases Nat.lt_trichotomy (ws.idxOf t) i with h1 | h1 | h1
  · exact absurd (hg.trans hi2.symm) (List.pairwise_iff_getElem.1 h _ _ hj hlt h1)
  · exact h1
  · exact absurd (hi2.trans hg.symm) (List.pairwise_iff_getElem.1 h _ _ hlt hj h1)
theorem tput_iff {b r r' : List UInt8} {ws : List (List UInt8)} {n m k : Nat} {out : List V} (hn : n ≤ 65536) (hb : b.length < 18446744073709551616) (h1 : vget b = (m, k, 0)) (h2 : rwords m [] (b.drop k) = (ws, r, 0)) (h3 : rmarks ws n [] r = (out, r', 0)) :
    tput out = b ↔ (r' = [] ∧ words out = ws) := by
  obtain ⟨ws1, e1, e2, e3⟩ := rwords_inv m [] ws _ _ h2
  rw [List.nil_append] at e1
  subst e1
  have hW : ∀ w ∈ ws, w.length ≤ b.length := fun w hw => by
    have := rwords_mem m [] (b.drop k) w (by rw [h2]; exact hw)
    rcases this with h | h
    · simp at h
    · rw [List.length_drop] at h; omega
  have hform : ∀ v ∈ out, v.k = 3 ∧ v.n = 0 ∧ v.t.length ≤ b.length := fun v hv => by
    have := rmarks_form hW n [] r v (by rw [h3]; exact hv)
    rcases this with h | h
    · simp at h
    · exact h
  have hlen : out.length = n := by
    have := @rmarks_len ws n [] r (by rw [h3])
    rw [h3] at this
    simpa using this
  constructor
  · intro h
    obtain ⟨p1, p2, p3⟩ := tget_parts (l := out) (by omega) (fun v hv => ⟨(hform v hv).1, (hform v hv).2.1, by have := (hform v hv).2.2; omega⟩) []
    rw [List.append_nil, h] at p1 p2
    rw [h1] at p1
    simp only [Prod.mk.injEq, and_true] at p1
    rw [p1.1, p1.2] at h2
    rw [p2] at h2
    simp only [Prod.mk.injEq, and_true] at h2
    have hr := h2.2
    rw [h2.1] at hr
    rw [hlen, h2.1, hr, h3] at p3
    simp only [Prod.mk.injEq, and_true, true_and] at p3
    exact ⟨p3, h2.1⟩
  · rintro ⟨h4, h5⟩
    have hnd : ∀ i t, ws[i]? = some t → ws.idxOf t = i := fun i t hi => idx_nodup (by rw [← h5]; exact wordsF_nodup out [] List.nodup_nil) i t hi
    obtain ⟨o1, f1, f2, f3⟩ := rmarks_inv hnd n [] out r r' h3
    rw [List.nil_append] at f1
    subst f1
    rw [h4, List.append_nil] at f3
    have hc := vget_cut h1
    unfold tput
    rw [h5, e2, ← f3, ← e3]
    exact hc.symm
end Go.Proofs.Ytiijnfakphhbeaa

/- Joined texts: see the remark ahead of each part. No condition but those that the parts name. -/
import Derived.Test.YthkpgjcnnfdibaaKys
/-! Plain laws of layer 4: rows and their bytes are each other's; what is cut or has more behind is none; sizes. No program in sight. -/
namespace Go.Proofs.Ythkpgjcnnfdibaa.Rw
open Go.RowKit
set_option linter.unusedVariables false

theorem rvals_len : ∀ (B T : List UInt8) (i : Nat) (acc : List V) (rest : List UInt8), (rvals B i T acc rest).1.length ≤ acc.length + T.length
  | B, [], i, acc, rest => by
    unfold rvals; split <;> simp
  | B, t :: T, i, acc, rest => by
    unfold rvals
    split
    · have := rvals_len B T (i + 1) (acc ++ [null]) rest
      simp at this ⊢; omega
    · split
      · simp
      · have := rvals_len B T (i + 1) (acc ++ [(vread t rest).1]) (rest.drop (vread t rest).2.1)
        simp at this ⊢; omega
theorem rget_len (T b : List UInt8) : (rget T b).1.length ≤ T.length := by
  unfold rget
  split
  · simp
  split
  · simp
  split
  · simp
  · have := rvals_len b T 0 [] (b.drop (size8 T.length))
    simpa using this
theorem vread_err (t : UInt8) (b : List UInt8) : (vread t b).2.2 = 0 ∨ (vread t b).2.2 = 20 ∨ (vread t b).2.2 = 21 := by
  unfold vread
  split
  · match b with
    | [] => simp
    | c :: _ => dsimp only; split <;> simp
  · split
    · rcases vget_cases b with h | h | h <;> simp [h]
    · split
      · simp
      · split <;> simp
theorem rvals_err : ∀ (B T : List UInt8) (i : Nat) (acc : List V) (rest : List UInt8), (rvals B i T acc rest).2 = 0 ∨ ((rvals B i T acc rest).1 = [] ∧ ((rvals B i T acc rest).2 = 20 ∨ (rvals B i T acc rest).2 = 21))
  | B, [], i, acc, rest => by
    unfold rvals; split <;> simp
  | B, t :: T, i, acc, rest => by
    unfold rvals
    split
    · exact rvals_err B T (i + 1) _ _
    · split
      · rename_i h
        right
        exact ⟨rfl, by rcases vread_err t rest with h1 | h1 | h1 <;> simp_all⟩
      · exact rvals_err B T (i + 1) _ _
theorem rget_err (T b : List UInt8) : (rget T b).2 = 0 ∨ ((rget T b).1 = [] ∧ ((rget T b).2 = 1 ∨ (rget T b).2 = 20 ∨ (rget T b).2 = 21)) := by
  unfold rget
  split
  · right; simp
  split
  · right; simp
  split
  · right; simp
  · rcases rvals_err b T 0 [] (b.drop (size8 T.length)) with h | ⟨h, h1⟩
    · exact .inl h
    · exact .inr ⟨h, .inr h1⟩

/-! ### a value and its bytes -/
theorem rmay_k {t : UInt8} {v : V} (ht : tyok t = true) (h : rmay t v = true) (h0 : v.k ≠ 0) : v.k = t.toNat ∧ mayB v = true := by
  unfold rmay at h
  simp only [Bool.and_eq_true, Bool.or_eq_true, decide_eq_true_eq] at h
  exact ⟨by omega, h.1⟩
theorem mayB_cs (v : V) (h : mayB v = true) : (v.k = 0 ∧ v = null) ∨ (v.k = 1 ∧ (v.n = 0 ∨ v.n = 1) ∧ v.t = []) ∨ (v.k = 2 ∧ v.t = []) ∨ (v.k = 3 ∧ v.n = 0) := by
  obtain ⟨k, n, t⟩ := v
  unfold mayB at h
  dsimp only at h ⊢
  by_cases h0 : k = 0
  · rw [if_pos h0] at h
    simp at h
    obtain ⟨rfl, rfl⟩ := h
    subst h0
    exact .inl ⟨rfl, rfl⟩
  rw [if_neg h0] at h
  by_cases h1 : k = 1
  · rw [if_pos h1] at h
    simp at h
    exact .inr (.inl ⟨h1, h.1, h.2⟩)
  rw [if_neg h1] at h
  by_cases h2 : k = 2
  · rw [if_pos h2] at h
    simp at h
    exact .inr (.inr (.inl ⟨h2, h⟩))
  rw [if_neg h2] at h
  by_cases h3 : k = 3
  · rw [if_pos h3] at h
    simp at h
    exact .inr (.inr (.inr ⟨h3, h⟩))
  rw [if_neg h3] at h
  cases h
theorem vread_vone {t : UInt8} {v : V} (ht : tyok t = true) (h : rmay t v = true) (h0 : v.k ≠ 0) (hn : i64r v.n) (hl : v.t.length < 18446744073709551616) (s : List UInt8) : vread t (vone v ++ s) = (v, (vone v).length, 0) := by
  obtain ⟨hk, hm⟩ := rmay_k ht h h0
  obtain ⟨k, n, tx⟩ := v
  dsimp only at hk hn hl h0
  rcases mayB_cs _ hm with ⟨h1, _⟩ | ⟨h1, hn1, h2⟩ | ⟨h1, h2⟩ | ⟨h1, h2⟩
  · exact absurd h1 h0
  · dsimp only at h1 hn1 h2
    subst h1 h2
    unfold vread
    rw [if_pos hk.symm]
    rcases hn1 with rfl | rfl <;> rfl
  · dsimp only at h1 h2
    subst h1 h2
    have hz := zig_bd n hn.1 hn.2
    have e : vone ⟨2, n, []⟩ = vput (zig n).toNat := rfl
    unfold vread
    rw [e, vget_vput (by omega), if_neg (by omega), if_neg (by simp), if_pos hk.symm]
    dsimp only
    rw [Int.toNat_of_nonneg hz.1, zag_zig]
  · dsimp only at h1 h2
    subst h1 h2
    have e : vone ⟨3, 0, tx⟩ = vput tx.length ++ tx := rfl
    unfold vread
    rw [e, List.append_assoc, vget_vput hl, if_neg (by omega), if_neg (by simp), if_neg (by omega), if_neg (by simp)]
    dsimp only
    rw [List.drop_left, List.take_left, List.length_append]
theorem vread_cut {t : UInt8} {v : V} (ht : tyok t = true) (h : rmay t v = true) (h0 : v.k ≠ 0) (hn : i64r v.n) (hl : v.t.length < 18446744073709551616) {k : Nat} (hk2 : k < (vone v).length) : vread t ((vone v).take k) = (null, 0, 20) := by
  obtain ⟨hk, hm⟩ := rmay_k ht h h0
  obtain ⟨vk, n, tx⟩ := v
  dsimp only at hk hn hl h0
  rcases mayB_cs _ hm with ⟨h1, _⟩ | ⟨h1, hn1, h2⟩ | ⟨h1, h2⟩ | ⟨h1, h2⟩
  · exact absurd h1 h0
  · dsimp only at h1 hn1 h2
    subst h1 h2
    have e : (vone ⟨1, n, []⟩).length = 1 := rfl
    rw [e] at hk2
    obtain rfl : k = 0 := by omega
    unfold vread
    rw [if_pos hk.symm]; rfl
  · dsimp only at h1 h2
    subst h1 h2
    have hz := zig_bd n hn.1 hn.2
    have e : vone ⟨2, n, []⟩ = vput (zig n).toNat := rfl
    rw [e] at hk2 ⊢
    unfold vread
    rw [vget_short (by omega) hk2, if_neg (by omega), if_pos (by simp)]
  · dsimp only at h1 h2
    subst h1 h2
    have e : vone ⟨3, 0, tx⟩ = vput tx.length ++ tx := rfl
    rw [e] at hk2 ⊢
    rw [List.length_append] at hk2
    unfold vread
    rw [if_neg (by omega)]
    rcases Nat.lt_or_ge k (vput tx.length).length with hlt | hge
    · rw [List.take_append_of_le_length (by omega), vget_short hl hlt, if_pos (by simp)]
    · rw [List.take_append, List.take_of_length_le hge, vget_vput hl, if_neg (by simp), if_neg (by omega), if_pos]
      rw [List.length_append, List.length_take]
      dsimp only
      omega
theorem vread_inv {t : UInt8} (ht : tyok t = true) {r : List UInt8} {v : V} {k : Nat} (hr : r.length ≤ maxLen) (h : vread t r = (v, k, 0)) :
    rmay t v = true ∧ v.k ≠ 0 ∧ vok v ∧ k ≤ r.length ∧ vone v = r.take k := by
  have ht3 : t.toNat = 1 ∨ t.toNat = 2 ∨ t.toNat = 3 := by
    unfold tyok at ht
    simp only [Bool.or_eq_true, decide_eq_true_eq] at ht
    omega
  unfold vread at h
  by_cases h1 : t.toNat = 1
  · rw [if_pos h1] at h
    match r, h with
    | c :: r', h =>
      dsimp only at h
      split at h
      · cases h
      · rename_i hc
        cases h
        have h256 := c.toNat_lt
        refine ⟨?_, by simp, ⟨by simp, by unfold i64r; dsimp only; omega, by simp⟩, by simp, ?_⟩
        · unfold rmay mayB
          dsimp only
          rcases (by omega : c.toNat = 0 ∨ c.toNat = 1) with e | e <;> simp [e, h1]
        · show [(c.toNat : Int).toNat.toUInt8] = _
          simp
  rw [if_neg h1] at h
  have hv := vget_val r
  by_cases he : (vget r).2.2 ≠ 0
  · rw [if_pos he] at h; exact absurd (congrArg (fun x : V × Nat × Nat => x.2.2) h) he
  rw [if_neg he] at h
  have he0 : (vget r).2.2 = 0 := by simpa using he
  obtain ⟨u, q, e⟩ : ∃ u q, vget r = (u, q, 0) := ⟨(vget r).1, (vget r).2.1, by rw [← he0]⟩
  rw [e] at h hv
  dsimp only at h hv
  obtain ⟨hq1, hq10, hql, hput, hub⟩ := vget_ok e
  by_cases h2 : t.toNat = 2
  · rw [if_pos h2] at h
    cases h
    have hz := zag_bd (u : Int) (by omega) (by omega)
    refine ⟨?_, by simp, ⟨by simp, hz, by simp⟩, hql, ?_⟩
    · unfold rmay mayB
      simp [h2]
    · show vput (zig (zag (u : Int))).toNat = _
      rw [zig_zag _ (by omega), ← hput]
      simp
  rw [if_neg h2] at h
  have h3 : t.toNat = 3 := by omega
  by_cases hu : r.length - q < u
  · rw [if_pos hu] at h; cases h
  rw [if_neg hu] at h
  cases h
  have hlen : ((r.drop q).take u).length = u := by rw [List.length_take, List.length_drop]; omega
  refine ⟨?_, by simp, ⟨by simp, by unfold i64r; simp, by dsimp only; omega⟩, by omega, ?_⟩
  · unfold rmay mayB
    simp [h3]
  · show vput ((r.drop q).take u).length ++ (r.drop q).take u = _
    rw [hlen, hput, List.take_add]

/-! ### a row and its bytes -/
theorem rvals_put : ∀ (B : List UInt8) (T : List UInt8) (l acc : List V) (i : Nat) (x : List UInt8), knownT T = true → l.length = T.length → mays T l = true → (∀ v ∈ l, i64r v.n ∧ v.t.length < 18446744073709551616) →
    (∀ j, j < l.length → bitAt B (i + j) = nullAt l j) → rvals B i T acc (l.flatMap vone ++ x) = if x = [] then (acc ++ l, 0) else ([], 21)
  | B, [], [], acc, i, x, _, _, _, _, _ => by simp [rvals]
  | B, t :: T, v :: l, acc, i, x, hT, hl, hm, hok, hb => by
    unfold knownT at hT
    simp only [List.all_cons, Bool.and_eq_true] at hT
    simp only [mays, Bool.and_eq_true] at hm
    have h0 := hb 0 (by simp)
    have hok0 := hok v (by simp)
    have ih := fun acc => rvals_put B T l acc (i + 1) x hT.2 (by simpa using hl) hm.2 (fun u hu => hok u (by simp [hu])) (fun j hj => by
      have := hb (j + 1) (by simp; omega)
      rw [show i + 1 + j = i + (j + 1) by omega, this]; rfl)
    unfold rvals
    by_cases hk : v.k = 0
    · have hvn : v = null := by
        have h1 : mayB v = true := by
          have := hm.1; unfold rmay at this; rw [Bool.and_eq_true] at this; exact this.1
        rcases mayB_cs v h1 with h | h | h | h
        · exact h.2
        all_goals omega
      rw [if_pos (by rw [Nat.add_zero] at h0; rw [h0]; simp [nullAt, isNull, hk])]
      rw [List.flatMap_cons, vone_null hk, List.nil_append, ih, hvn, List.append_assoc]
      rfl
    · rw [if_neg (by rw [Nat.add_zero] at h0; rw [h0]; simp [nullAt, isNull, hk])]
      rw [List.flatMap_cons, List.append_assoc, vread_vone hT.1 hm.1 hk hok0.1 hok0.2]
      rw [if_neg (by simp)]
      dsimp only
      rw [List.drop_left, ih, List.append_assoc]
      rfl
  | B, [], _ :: _, acc, i, x, _, hl, _, _, _ => by simp at hl
  | B, _ :: _, [], acc, i, x, _, hl, _, _, _ => by simp at hl
theorem rvals_cut : ∀ (B : List UInt8) (T : List UInt8) (l acc : List V) (i k : Nat), knownT T = true → l.length = T.length → mays T l = true → (∀ v ∈ l, i64r v.n ∧ v.t.length < 18446744073709551616) →
    (∀ j, j < l.length → bitAt B (i + j) = nullAt l j) → k < (l.flatMap vone).length → rvals B i T acc ((l.flatMap vone).take k) = ([], 20)
  | B, [], [], acc, i, k, _, _, _, _, _, hk => by simp at hk
  | B, t :: T, v :: l, acc, i, k, hT, hl, hm, hok, hb, hk => by
    unfold knownT at hT
    simp only [List.all_cons, Bool.and_eq_true] at hT
    simp only [mays, Bool.and_eq_true] at hm
    have h0 := hb 0 (by simp)
    have hok0 := hok v (by simp)
    have ih := fun acc k hk => rvals_cut B T l acc (i + 1) k hT.2 (by simpa using hl) hm.2 (fun u hu => hok u (by simp [hu])) (fun j hj => by
      have := hb (j + 1) (by simp; omega)
      rw [show i + 1 + j = i + (j + 1) by omega, this]; rfl) hk
    unfold rvals
    by_cases hkv : v.k = 0
    · rw [if_pos (by rw [Nat.add_zero] at h0; rw [h0]; simp [nullAt, isNull, hkv])]
      rw [List.flatMap_cons, vone_null hkv, List.nil_append] at hk ⊢
      exact ih _ _ hk
    · rw [if_neg (by rw [Nat.add_zero] at h0; rw [h0]; simp [nullAt, isNull, hkv])]
      rw [List.flatMap_cons] at hk ⊢
      rw [List.length_append] at hk
      rcases Nat.lt_or_ge k (vone v).length with hlt | hge
      · rw [List.take_append_of_le_length (by omega), vread_cut hT.1 hm.1 hkv hok0.1 hok0.2 hlt, if_pos (by simp)]
      · rw [List.take_append, List.take_of_length_le hge, vread_vone hT.1 hm.1 hkv hok0.1 hok0.2]
        rw [if_neg (by simp)]
        dsimp only
        rw [List.drop_left]
        exact ih _ _ (by omega)
  | B, [], _ :: _, acc, i, k, _, hl, _, _, _, _ => by simp at hl
  | B, _ :: _, [], acc, i, k, _, hl, _, _, _, _ => by simp at hl
theorem rvals_inv : ∀ (B : List UInt8) (T : List UInt8) (i : Nat) (acc m : List V) (rest : List UInt8), knownT T = true → rest.length ≤ maxLen → rvals B i T acc rest = (m, 0) →
    ∃ l, m = acc ++ l ∧ l.length = T.length ∧ mays T l = true ∧ rest = l.flatMap vone ∧ (∀ j, j < l.length → nullAt l j = bitAt B (i + j)) ∧ ∀ v ∈ l, vok v
  | B, [], i, acc, m, rest, _, _, h => by
    unfold rvals at h
    split at h
    · rename_i hr
      cases h
      exact ⟨[], by simp, rfl, rfl, by simpa using hr, by simp, by simp⟩
    · cases h
  | B, t :: T, i, acc, m, rest, hT, hrl, h => by
    unfold knownT at hT
    simp only [List.all_cons, Bool.and_eq_true] at hT
    unfold rvals at h
    by_cases hb : bitAt B i = true
    · rw [if_pos hb] at h
      obtain ⟨l, h1, h2, h3, h4, h5, h6⟩ := rvals_inv B T (i + 1) _ m rest hT.2 hrl h
      refine ⟨null :: l, by rw [h1, List.append_assoc]; rfl, by simp [h2], ?_, ?_, ?_, ?_⟩
      · simp only [mays, Bool.and_eq_true]; exact ⟨rfl, h3⟩
      · rw [List.flatMap_cons, vone_null rfl, List.nil_append]; exact h4
      · intro j hj
        rcases j with _ | j
        · rw [Nat.add_zero, hb]; rfl
        · have := h5 j (by simpa using hj)
          rw [show i + (j + 1) = i + 1 + j by omega, ← this]; rfl
      · intro v hv
        rcases List.mem_cons.1 hv with rfl | hv
        · exact ⟨by decide, by unfold i64r; decide, by decide⟩
        · exact h6 v hv
    · rw [if_neg hb] at h
      by_cases he : (vread t rest).2.2 ≠ 0
      · rw [if_pos he] at h; exact absurd (congrArg Prod.snd h) he
      · rw [if_neg he] at h
        have he0 : (vread t rest).2.2 = 0 := by simpa using he
        obtain ⟨v, k, e⟩ : ∃ v k, vread t rest = (v, k, 0) := ⟨(vread t rest).1, (vread t rest).2.1, by rw [← he0]⟩
        rw [e] at h
        dsimp only at h
        obtain ⟨r1, r2, r3, r4, r5⟩ := vread_inv hT.1 hrl e
        obtain ⟨l, h1, h2, h3, h4, h5, h6⟩ := rvals_inv B T (i + 1) _ m (rest.drop k) hT.2 (by rw [List.length_drop]; omega) h
        refine ⟨v :: l, by rw [h1, List.append_assoc]; rfl, by simp [h2], ?_, ?_, ?_, ?_⟩
        · simp only [mays, Bool.and_eq_true]; exact ⟨r1, h3⟩
        · rw [List.flatMap_cons, ← h4, r5, List.take_append_drop]
        · intro j hj
          rcases j with _ | j
          · rw [Nat.add_zero]
            have : bitAt B i = false := by simpa using hb
            rw [this]; simp [nullAt, isNull, r2]
          · have := h5 j (by simpa using hj)
            rw [show i + (j + 1) = i + 1 + j by omega, ← this]; rfl
        · intro u hu
          rcases List.mem_cons.1 hu with rfl | hu
          · exact r3
          · exact h6 u hu

theorem rb_bit (l : List V) (x : List UInt8) (i : Nat) (hi : i < 8 * size8 l.length) : bitAt (rbytes l ++ x) i = nullAt l i := by
  rw [← layP_bit (size8 l.length) (nullAt l) i hi]
  unfold bitAt rbytes
  rw [List.append_assoc, List.getElem?_append_left (by rw [layP_length]; omega)]
theorem nullAt_no (l : List V) (i : Nat) (h : l.length ≤ i) : nullAt l i = false := by unfold nullAt; rw [List.getElem?_eq_none h]
theorem rb_head {T : List UInt8} {l : List V} (x : List UInt8) (hT : knownT T = true) (hl : l.length = T.length) : rget T (rbytes l ++ x) = rvals (rbytes l ++ x) 0 T [] (l.flatMap vone ++ x) := by
  unfold rget
  rw [if_neg (by rw [hT]; simp), if_neg, if_neg]
  · rw [← hl]
    congr 1
    unfold rbytes
    rw [List.append_assoc, List.drop_left' (layP_length _ _)]
  · rw [Bool.not_eq_true]
    unfold anyBit
    rw [List.any_eq_false]
    intro q hq
    rw [List.mem_range'_1] at hq
    rw [← hl] at hq
    rw [rb_bit l x q (by omega), nullAt_no l q (by omega)]
    simp
  · unfold rbytes
    rw [List.length_append, List.length_append, layP_length, hl]; omega
theorem row_get_put {T : List UInt8} {l : List V} (hT : knownT T = true) (hr : rowok T l = true) (hok : ∀ v ∈ l, i64r v.n ∧ v.t.length < 18446744073709551616) (x : List UInt8) : rget T (rbytes l ++ x) = if x = [] then (l, 0) else ([], 21) := by
  unfold rowok at hr
  rw [Bool.and_eq_true, decide_eq_true_eq] at hr
  rw [rb_head x hT hr.1, rvals_put _ T l [] 0 x hT hr.1 hr.2 hok fun j hj => by rw [Nat.zero_add, rb_bit l x j (by have := size8_le l.length; omega)]]
  rfl
theorem get_cut {T : List UInt8} {l : List V} (hT : knownT T = true) (hr : rowok T l = true) (hok : ∀ v ∈ l, i64r v.n ∧ v.t.length < 18446744073709551616) {k : Nat} (hk : k < (rbytes l).length) : rget T ((rbytes l).take k) = ([], 20) := by
  unfold rowok at hr
  rw [Bool.and_eq_true, decide_eq_true_eq] at hr
  have hlen : (rbytes l).length = size8 l.length + (l.flatMap vone).length := by unfold rbytes; rw [List.length_append, layP_length]
  rcases Nat.lt_or_ge k (size8 l.length) with hlt | hge
  · unfold rget
    rw [if_neg (by rw [hT]; simp), if_pos]
    rw [List.length_take, ← hr.1]; omega
  · have hb : ∀ i, i < 8 * size8 l.length → bitAt ((rbytes l).take k) i = nullAt l i := fun i hi => by
      have h1 := rb_bit l [] i hi
      rw [List.append_nil] at h1
      rw [← h1]
      unfold bitAt
      rw [List.getElem?_take, if_pos (by omega)]
    have h1 : ((rbytes l).take k).drop (size8 T.length) = (l.flatMap vone).take (k - size8 l.length) := by
      rw [← hr.1]
      unfold rbytes
      rw [List.take_append, layP_length, List.take_of_length_le (by rw [layP_length]; omega), List.drop_left' (layP_length _ _)]
    unfold rget
    rw [if_neg (by rw [hT]; simp), if_neg, if_neg, h1]
    · exact rvals_cut _ T l [] 0 _ hT hr.1 hr.2 hok (fun j hj => by rw [Nat.zero_add, hb j (by have := size8_le l.length; omega)]) (by omega)
    · rw [Bool.not_eq_true]
      unfold anyBit
      rw [List.any_eq_false]
      intro q hq
      rw [List.mem_range'_1] at hq
      rw [← hr.1] at hq
      rw [hb q (by omega), nullAt_no l q (by omega)]
      simp
    · rw [List.length_take, ← hr.1]; omega
theorem byte8_all : ∀ x : Nat, x < 256 → x = byte8 (decide (x / 1 % 2 = 1)) (decide (x / 2 % 2 = 1)) (decide (x / 4 % 2 = 1)) (decide (x / 8 % 2 = 1)) (decide (x / 16 % 2 = 1)) (decide (x / 32 % 2 = 1)) (decide (x / 64 % 2 = 1)) (decide (x / 128 % 2 = 1)) := by decide +kernel
theorem layP_of (b : List UInt8) (m : Nat) (p : Nat → Bool) (hm : m ≤ b.length) (h : ∀ i, i < 8 * m → p i = bitAt b i) : layP m p = b.take m := by
  apply List.ext_getElem?
  intro j
  rcases Nat.lt_or_ge j m with hj | hj
  · rw [layP_get _ hj, List.getElem?_take, if_pos hj, List.getElem?_eq_getElem (by omega)]
    congr 1
    obtain ⟨x, hx⟩ : ∃ x, x = b[j]'(by omega) := ⟨_, rfl⟩
    rw [← hx]
    have hb : ∀ r, r < 8 → p (8 * j + r) = decide (x.toNat / 2 ^ r % 2 = 1) := fun r hr => by
      rw [h _ (by omega)]
      unfold bitAt
      rw [show (8 * j + r) / 8 = j by omega, show (8 * j + r) % 8 = r by omega, List.getElem?_eq_getElem (by omega), Option.getD_some, hx]
    rw [byteP_8]
    have e0 := hb 0 (by omega)
    rw [Nat.add_zero] at e0
    rw [e0, hb 1 (by omega), hb 2 (by omega), hb 3 (by omega), hb 4 (by omega), hb 5 (by omega), hb 6 (by omega), hb 7 (by omega)]
    have := byte8_all x.toNat x.toNat_lt
    show (byte8 (decide (x.toNat / 1 % 2 = 1)) (decide (x.toNat / 2 % 2 = 1)) (decide (x.toNat / 4 % 2 = 1)) (decide (x.toNat / 8 % 2 = 1)) (decide (x.toNat / 16 % 2 = 1)) (decide (x.toNat / 32 % 2 = 1)) (decide (x.toNat / 64 % 2 = 1)) (decide (x.toNat / 128 % 2 = 1))).toUInt8 = x
    rw [← this]
    simp
  · rw [List.getElem?_eq_none (by rw [layP_length]; exact hj), List.getElem?_eq_none (by rw [List.length_take]; omega)]
theorem row_put_get {T b : List UInt8} {m : List V} (hb : b.length ≤ maxLen) (h : rget T b = (m, 0)) : knownT T = true ∧ rowok T m = true ∧ rbytes m = b ∧ ∀ v ∈ m, vok v := by
  unfold rget at h
  by_cases h1 : knownT T = false
  · rw [if_pos h1] at h; cases h
  rw [if_neg h1] at h
  have hT : knownT T = true := by simpa using h1
  by_cases h2 : b.length < size8 T.length
  · rw [if_pos h2] at h; cases h
  rw [if_neg h2] at h
  by_cases h3 : anyBit b T.length (8 * size8 T.length) = true
  · rw [if_pos h3] at h; cases h
  rw [if_neg h3] at h
  obtain ⟨l, e1, e2, e3, e4, e5, e6⟩ := rvals_inv b T 0 [] m _ hT (by rw [List.length_drop]; omega) h
  rw [List.nil_append] at e1
  subst e1
  refine ⟨hT, by unfold rowok; rw [Bool.and_eq_true, decide_eq_true_eq]; exact ⟨e2, e3⟩, ?_, e6⟩
  unfold rbytes
  rw [← e4, e2, layP_of b (size8 T.length) (nullAt m) (by omega) (fun i hi => ?_), List.take_append_drop]
  rcases Nat.lt_or_ge i m.length with hlt | hge
  · rw [e5 i hlt, Nat.zero_add]
  · rw [nullAt_no m i hge]
    have h4 : anyBit b T.length (8 * size8 T.length) = false := by simpa using h3
    unfold anyBit at h4
    rw [List.any_eq_false] at h4
    have := h4 i (by rw [List.mem_range'_1]; omega)
    simpa using this
theorem rb_inj {T : List UInt8} {l m : List V} (hT : knownT T = true) (hl : rowok T l = true) (hm : rowok T m = true) (hokl : ∀ v ∈ l, i64r v.n ∧ v.t.length < 18446744073709551616) (hokm : ∀ v ∈ m, i64r v.n ∧ v.t.length < 18446744073709551616) :
    (rbytes l = rbytes m) ↔ l = m := by
  constructor
  · intro h
    have h1 := row_get_put hT hl hokl []
    have h2 := row_get_put hT hm hokm []
    rw [List.append_nil, if_pos rfl] at h1 h2
    rw [h, h2] at h1
    exact (congrArg Prod.fst h1).symm
  · rintro rfl; rfl
end Go.Proofs.Ythkpgjcnnfdibaa.Rw

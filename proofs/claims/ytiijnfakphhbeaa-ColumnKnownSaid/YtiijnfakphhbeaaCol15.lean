/- The walks of bytes.Compare and of column.Bounds (layer 6). For texts of at most 1000000 bytes. -/
import Derived.Test.YtiijnfakphhbeaaLess
import Derived.Test.YtiijnfakphhbeaaCol2
import Derived.Lib.Bytealg
import Derived.Laws.Externs
namespace Go.Proofs.Ytiijnfakphhbeaa
open Go.RowKit Go.Maps
set_option linter.unusedVariables false
set_option linter.unusedSimpArgs false

theorem cmp_less : ∀ a b : List UInt8, decide (Lib.compareBytes a b < 0) = bl a b
  | [], [] => rfl
  | [], _ :: _ => rfl
  | _ :: _, [] => rfl
  | x :: a, y :: b => by
    unfold Lib.compareBytes
    by_cases h1 : x < y
    · rw [if_pos h1, bl_ne (fun e => by subst e; exact UInt8.lt_irrefl x h1)]; simp [h1]
    rw [if_neg h1]
    by_cases h2 : y < x
    · rw [if_pos h2, bl_ne (fun e => by subst e; exact h1 h2)]; simp [h1]
    rw [if_neg h2]
    have h3 : x = y := by
      rcases Nat.lt_trichotomy x.toNat y.toNat with h | h | h
      · exact absurd (UInt8.lt_iff_toNat_lt.2 h) h1
      · exact UInt8.toNat_inj.1 h
      · exact absurd (UInt8.lt_iff_toNat_lt.2 h) h2
    subst h3
    rw [bl_eq]; exact cmp_less a b
theorem run_loadBytes {P : Program} (w : World) (b : Nat) : ∀ (l acc : List UInt8) (o : Nat), (∀ j u, (cells l)[j]? = some u → w.cell? ⟨b, o + j, none⟩ = some u) →
    (Extern.Bytes.loadBytes ⟨b, o, none⟩ l.length ⟨acc.toArray⟩).run P w = .ok ⟨(acc ++ l).toArray⟩ w
  | [], acc, o, _ => by simp [Extern.Bytes.loadBytes]
  | c :: l, acc, o, h => by
    have h0 := h 0 (b8 c) rfl
    rw [Nat.add_zero] at h0
    have ha : ((⟨b, o, none⟩ : Addr).add 1) = ⟨b, o + 1, none⟩ := by simp [Addr.add]
    have hp : (ByteArray.mk acc.toArray).push c = ⟨(acc ++ [c]).toArray⟩ := by simp [ByteArray.push]
    have ih := run_loadBytes (P := P) w b l (acc ++ [c]) (o + 1) (fun j u hu => by rw [Nat.add_assoc, Nat.add_comm 1 j]; exact h (j + 1) u hu)
    rw [List.length_cons]
    unfold Extern.Bytes.loadBytes
    rw [Sem.run_bind, run_load, h0]
    simp only [Result.andThen]
    rw [ha, show ((c.toNat : Int)).toNat.toUInt8 = c by simp, hp, ih, List.append_assoc]
    rfl
theorem run_bytesOf {P : Program} {w : World} {B : Nat} {A : Option Addr} (c : Nat) {l : List UInt8} (h : Rd w B A (cells l)) : (Extern.Bytes.bytesOf (.slice A l.length c)).run P w = .ok ⟨l.toArray⟩ w := by
  rcases h with h | ⟨b, o, rfl, _, hc⟩
  · have h0 : l = [] := by
      cases l with
      | nil => rfl
      | cons x l => simp at h
    subst h0
    cases A with
    | none => rfl
    | some a => rfl
  · have := run_loadBytes (P := P) w b l [] o hc
    rw [List.nil_append] at this
    exact this
theorem run_compareSl {P : Program} {w : World} {B : Nat} {A A' : Option Addr} (c c' : Nat) {a b : List UInt8} (ha : Rd w B A (cells a)) (hb : Rd w B A' (cells b)) :
    (Extern.BytealgCompare.compare #[.slice A a.length c, .slice A' b.length c']).run P w = .ok (.int .i64 (Lib.compareBytes a b)) w := by
  change Sem.run P (do pure (goInt (Extern.BytealgCompare.cmp (← Extern.Bytes.bytesOf (.slice A a.length c)) (← Extern.Bytes.bytesOf (.slice A' b.length c'))))) w = _
  simp only [Sem.run_bind, run_bytesOf c ha, run_bytesOf c' hb, Sem.run_pure, Result.andThen]
  rw [Lib.cmp_eq]
  rfl
set_option maxRecDepth 100000 in
theorem Compare_any (B : Nat) (A A' : Option Addr) (c c' : Nat) (a b : List UInt8) (w : World) (ha : Rd w B A (cells a)) (hb : Rd w B A' (cells b)) :
    Calls Try.prog 40 #[.slice A a.length c, .slice A' b.length c'] w fun e w' => e = .returned (.int .i64 (Lib.compareBytes a b)) ∧ w = w' := by
  have R0 := run_compareSl (P := Try.prog) c c' ha hb
  go_enter Try.func40, Try.ntmps40
  go_wp2
  rw [run_callFunc_extern Try.func58 (by kernel_rfl) (by kernel_rfl) (by kernel_rfl) (e := Extern.BytealgCompare.compare) (by kernel_rfl), R0]
  simp only [Result.andThen]
  rw [Oper.upon_value]
  go_wp2
  go_ret
  exact ⟨rfl, rfl⟩

/-- what is asked of a value's parts -/
def vsm (v : V) : Prop := v.k < 256 ∧ i64r v.n ∧ v.t.length ≤ 1000000
set_option maxHeartbeats 1000000 in
set_option maxRecDepth 100000 in
theorem less_any (a b : V) (ha : vsm a) (hb : vsm b) (w : World) :
    Calls Try.prog 38 #[va a, va b] w fun e w' => e = .returned (.bool (lessB a b)) ∧ Below w.heap.size w w' := by
  have hv : ∀ (v : V) (W : World), Rd (W.alloc (.cells #[.int .u8 (v.k : Int), .int .i64 v.n, txt v.t] 38)) (W.heap.size + 1) (some ⟨W.heap.size, 0, none⟩) (vcells [v]) := fun v W => by
    have h := cv_three (T := 38) (w := W) v rfl
    simpa [vcells] using h
  have K0 := fun (v : V) (h : vsm v) (W : World) => Append_any (W.heap.size + 1) none (some ⟨W.heap.size, 0, none⟩) 0 1 [] [v] (W.alloc (.cells #[.int .u8 (v.k : Int), .int .i64 v.n, txt v.t] 38)) (.inl rfl) (hv v W) (by simp) (by
      have hle := kone_le3 v
      have := h.2.2
      simp; omega) (by simp) (by
    intro u hu; simp at hu; subst hu; exact ⟨h.1, h.2.1⟩)
  have K1 := K0 a ha ((w.alloc (.cells #[.int .u8 (a.k : Int), .int .i64 a.n, txt a.t] 38)).alloc (.cells #[.int .u8 (b.k : Int), .int .i64 b.n, txt b.t] 38))
  have K2 := K0 b hb
  simp only [List.length_nil, List.length_cons, Nat.zero_add, World.size_alloc] at K1 K2
  have hcl := cmp_less (kapp [] [a]).1 (kapp [] [b]).1
  have hl : lessB a b = bl (kapp [] [a]).1 (kapp [] [b]).1 := rfl
  rw [← hl] at hcl
  clear hl
  obtain ⟨y, hy⟩ : ∃ y, y = lessB a b := ⟨_, rfl⟩
  rw [← hy] at hcl ⊢
  clear hy
  generalize kapp [] [a] = r at *
  generalize kapp [] [b] = r' at *
  obtain ⟨x1, e1⟩ := r
  obtain ⟨x2, e2⟩ := r'
  dsimp only at hcl
  have HK1 := Lib.hid K1
  have HK2 := Lib.hid K2
  have HCL := Lib.hid hcl
  clear K0 K1 K2 hv hcl ha hb
  obtain ⟨k, n, t⟩ := a
  obtain ⟨k', n', t'⟩ := b
  dsimp only at HK1 HK2
  go_enter Try.func38, Try.ntmps38
  go_wp2_with fail
  refine HK1.out.mono ?_; rintro e w1 ⟨A1, c1, rfl, hown1, hb1⟩
  dsimp only at hown1
  dsimp only
  obtain ⟨w0, hw0⟩ : ∃ w0, w0 = (w.alloc (.cells #[.int .u8 (k : Int), .int .i64 n, txt t] 38)).alloc (.cells #[.int .u8 (k' : Int), .int .i64 n', txt t'] 38) := ⟨_, rfl⟩
  rw [← hw0] at hb1
  have hb0 : Below w.heap.size w w0 := by rw [hw0]; exact ((Below.refl _ _).alloc (Nat.le_refl _) _).alloc (by simp) _
  have hz0 : w0.heap.size = w.heap.size + 2 := by rw [hw0]; simp
  obtain ⟨d0, d1, d2⟩ := cv_block (w.alloc (.cells #[.int .u8 (k : Int), .int .i64 n, txt t] 38)) (.int .u8 (k' : Int)) (.int .i64 n') (txt t') 38
  rw [← hw0, World.size_alloc] at d0 d1 d2
  have hb01 := (Below.refl w0.heap.size w0).alloc (Nat.le_refl _) (.cells #[.int .u8 (k : Int), .int .i64 n, txt t] 38)
  have hb02 : Below w0.heap.size w0 w1 := hb01.trans (hb1.mono (by simp))
  have q0 := cell_be d0 hb02 (cell_lt d0)
  have q1 := cell_be d1 hb02 (cell_lt d1)
  have q2 := cell_be d2 hb02 (cell_lt d2)
  have hz1 := hb02.size
  clear d0 d1 d2 hw0 hb01 hb1
  go_wp2_with fail
  refine (HK2.out _).mono ?_; rintro e w2 ⟨A2, c2, rfl, hown2, hb2⟩
  dsimp only at hown2
  dsimp only
  have hb12 : Below w1.heap.size w1 w2 := ((Below.refl w1.heap.size w1).alloc (Nat.le_refl _) _).trans (hb2.mono (by simp))
  have hr1 := (rd_own hown1).below hb12
  have hr2 := rd_own hown2
  have hz2 := hb12.size
  have C0 := Compare_any w2.heap.size A1 A2 c1 c2 x1 x2 w2 (hr1.more hz2) hr2
  have HC := Lib.hid C0
  have hbf : Below w.heap.size w w2 := (hb0.trans (hb02.mono (by omega))).trans (hb12.mono (by omega))
  clear C0 q0 q1 q2
  go_wp2_with fail
  refine HC.out.mono ?_; rintro e w3 ⟨rfl, rfl⟩
  go_wp2_with fail
  go_ret
  exact ⟨by rw [← HCL.out]; rfl, hbf⟩
end Go.Proofs.Ytiijnfakphhbeaa

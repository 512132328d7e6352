/- Joined texts: see the remark ahead of each part. No condition but those that the parts name. -/
import Derived.Test.YthkpgjcnnfdibaaRows
import Derived.WalkKit
import Derived.WalkSpells
import Derived.WalkLawsBesides
import Derived.Lib.Hide
import Derived.Handy
import Derived.Deep.RegionHeld3
import Derived.OrdersHeld
import Derived.ProofKit
import Derived.OpenShut
import Derived.ShutString
import Derived.ChangeOld
import Derived.Lib.SmallJoins
import Derived.Deep.RegionHeld
import Derived.Maps.AppendAt
/-! Words on memory that all walks of this seat share: a slice that reads as a list of cells; what a call that only makes memory leaves. No condition. -/
namespace Go.Proofs.Ythkpgjcnnfdibaa
open Go.RowKit

/-- Behind a call that turns nothing that was there: every old cell reads as before. -/
theorem bcell {W w1 : World} (hb : Below W.heap.size W w1) : (∀ b o, b < W.heap.size → w1.cell? ⟨b, o, none⟩ = W.cell? ⟨b, o, none⟩) ∧ (∀ b o, b < W.heap.size → w1.frozen? ⟨b, o, none⟩ = W.frozen? ⟨b, o, none⟩) :=
  ⟨fun b o h => hb.cell (p := ⟨b, o, none⟩) h, fun b o h => hb.frozen (p := ⟨b, o, none⟩) h⟩

/-- Two structs compared part by part: one Bool. -/
@[go_sem] theorem ite_okb (c : Prop) [Decidable c] (b : Bool) (w : World) : (if c then Result.ok (Next.value (Value.bool b)) w else Result.ok (Next.value (Value.bool false)) w) = Result.ok (Next.value (Value.bool (decide c && b))) w := by
  by_cases h : c <;> simp [h]
theorem cell_al {w : World} {p : Addr} {v : Value} (h : w.cell? p = some v) (hp : p.block < w.heap.size) (o : Obj) : (w.alloc o).cell? p = some v := (World.cell?_alloc_lt w o p hp).trans h
theorem cell_be {B : Nat} {w w' : World} {p : Addr} {v : Value} (h : w.cell? p = some v) (hb : Below B w w') (hp : p.block < B) : w'.cell? p = some v := (hb.cell hp).trans h

/-- The cells 'xs' lie from address 'A' on, in a block below 'B'. -/
def Rd (w : World) (B : Nat) (A : Option Addr) (xs : List Value) : Prop :=
  xs = [] ∨ ∃ b o, A = some ⟨b, o, none⟩ ∧ b < B ∧ ∀ j u, xs[j]? = some u → w.cell? ⟨b, o + j, none⟩ = some u

section
variable {w w' : World} {B B' : Nat} {A : Option Addr} {xs : List Value}
theorem Rd.nil (w : World) (B : Nat) (A : Option Addr) : Rd w B A [] := .inl rfl
theorem Rd.keep (h : Rd w B A xs) (hk : ∀ b o, b < B → w'.cell? ⟨b, o, none⟩ = w.cell? ⟨b, o, none⟩) : Rd w' B A xs := by
  rcases h with h | ⟨b, o, hA, hb, hc⟩
  · exact .inl h
  · exact .inr ⟨b, o, hA, hb, fun j u hu => (hk b _ hb).trans (hc j u hu)⟩
theorem Rd.more (h : Rd w B A xs) (hB : B ≤ B') : Rd w B' A xs := by
  rcases h with h | ⟨b, o, hA, hb, hc⟩
  · exact .inl h
  · exact .inr ⟨b, o, hA, by omega, hc⟩
theorem Rd.below (h : Rd w B A xs) (hb : Below B w w') : Rd w' B A xs := h.keep fun b o hp => hb.cell (p := ⟨b, o, none⟩) hp
theorem Rd.alloc (h : Rd w B A xs) (hB : B ≤ w.heap.size) (o : Obj) : Rd (w.alloc o) B A xs := h.below ((Below.refl _ _).alloc hB o)
theorem Rd.at (h : Rd w B A xs) {k : Nat} (hk : k < xs.length) : ∃ b o, A = some ⟨b, o, none⟩ ∧ b < B ∧ ∀ j u, xs[j]? = some u → w.cell? ⟨b, o + j, none⟩ = some u := by
  rcases h with h | h
  · subst h; simp at hk
  · exact h
theorem Rd.cut (h : Rd w B A xs) (k : Nat) (c : Prop) [Decidable c] (hc : c → xs.length ≤ k) : Rd w B (if c then A else A.map (·.add k)) (xs.drop k) := by
  rcases h with h | ⟨b, o, hA, hb, hcell⟩
  · subst h; exact .inl (by simp)
  · by_cases hcc : c
    · exact .inl (List.drop_eq_nil_of_le (hc hcc))
    · rw [if_neg hcc]
      refine .inr ⟨b, o + k, ?_, hb, fun j u hu => ?_⟩
      · subst hA
        by_cases h0 : k = 0
        · subst h0; simp [Addr.add]
        · simp [Addr.add, h0]
      · rw [Nat.add_assoc]; exact hcell _ _ (by rw [← hu, List.getElem?_drop])
theorem Rd.take (h : Rd w B A xs) (k : Nat) : Rd w B A (xs.take k) := by
  rcases h with h | ⟨b, o, hA, hb, hcell⟩
  · subst h; exact .inl (by simp)
  · exact .inr ⟨b, o, hA, hb, fun j u hu => hcell j u (by rw [List.getElem?_take] at hu; split at hu <;> simp_all)⟩
end
theorem rd_one (W : World) (v : Value) (T : TypeId) (b B : Nat) (hb : b = W.heap.size) (hB : b < B) : Rd (W.alloc (.cells #[v] T)) B (some ⟨b, 0, none⟩) [v] := by
  subst hb
  refine .inr ⟨_, _, rfl, hB, fun j u hu => ?_⟩
  match j, hu with
  | 0, hu => simp at hu; subst hu; simp [go_sem]
theorem rd_two (W : World) (v u : Value) (T : TypeId) (b B : Nat) (hb : b = W.heap.size) (hB : b < B) : Rd (W.alloc (.cells #[v, u] T)) B (some ⟨b, 0, none⟩) [v, u] := by
  subst hb
  refine .inr ⟨_, _, rfl, hB, fun j x hx => ?_⟩
  match j, hx with
  | 0, hx => simp at hx; subst hx; simp [go_sem]
  | 1, hx => simp at hx; subst hx; simp [go_sem]
/-- A contract that only makes memory, said of whatever such calls keep. -/
theorem calls_keep {P : Program} {f : FuncId} {args : Array Value} {v : Value} {S : World → Prop} (hS : ∀ W W', S W → Below W.heap.size W W' → S W')
    (h : ∀ W, Calls P f args W fun e w' => e = .returned v ∧ Below W.heap.size W w') : ∀ W, S W → Calls P f args W fun e w' => e = .returned v ∧ S w' :=
  fun W hW => (h W).mono fun _ _ ⟨he, hb⟩ => ⟨he, hS W _ hW hb⟩
end Go.Proofs.Ythkpgjcnnfdibaa

/-! A law on a region that draws its order: if, in the order of the text, each operation gives one value in every world that meets S, and leaves a world that meets S, then so it does in whatever order is drawn. Holds over any program. -/
namespace Go.Proofs.Ythkpgjcnnfdibaa
open Go.RowKit

/-- waits j for i? -/
def waits (ops : Array Oper) (j i : Nat) : Bool := match ops[j]? with
  | some o => o.after.toList.any fun e => Region.binds .any e && e.on == i
  | none => false
/-- what is asked of the region's text alone -/
def detText (ops : Array Oper) : Bool :=
  Region.noSelect ops &&
  (List.range ops.size).all fun j => match ops[j]? with
    | none => true
    | some oj => (oj.after.all fun e => !Region.binds .any e || decide (e.on < j)) &&
      (List.range j).all fun i => match ops[i]? with
        | none => true
        | some oi => (waits ops j i || oi.apart ops oj) && (oi.dst.isNone || oi.dst != oj.dst)

theorem detText_spec {ops : Array Oper} (h : detText ops = true) :
    (∀ (j : Nat) (o : Oper) (cs : Array SelectCase) (b : Bool), ops[j]? = some o → o.op ≠ .select cs b) ∧
    (∀ (j : Nat) (oj : Oper) (e : Edge), ops[j]? = some oj → e ∈ oj.after → Region.binds .any e = true → e.on < j) ∧
    (∀ (i j : Nat) (oi oj : Oper), i < j → ops[i]? = some oi → ops[j]? = some oj → (waits ops j i = true ∨ oi.apart ops oj = true) ∧ ∀ d, oi.dst = some d → oj.dst ≠ some d) := by
  simp only [detText, Bool.and_eq_true, List.all_eq_true, List.mem_range] at h
  obtain ⟨h1, h2⟩ := h
  refine ⟨fun j o cs b => Region.noSelect_spec h1 j o cs b, fun j oj e hj he hb => ?_, fun i j oi oj hij hi hj => ?_⟩
  · have := h2 j (Array.getElem?_eq_some_iff.1 hj).1
    simp only [hj, Bool.and_eq_true, Array.all_eq_true_iff_forall_mem] at this
    have := this.1 e he
    simpa [hb] using this
  · have := h2 j (Array.getElem?_eq_some_iff.1 hj).1
    simp only [hj, Bool.and_eq_true, List.all_eq_true, List.mem_range] at this
    have := this.2 i hij
    simp only [hi, Bool.and_eq_true, Bool.or_eq_true] at this
    refine ⟨this.1, fun d hd hd' => ?_⟩
    have h3 := this.2
    rw [hd, hd'] at h3
    simp at h3

section
variable {P : Program} {ops : Array Oper} {Q : Exit → Act → World → Prop} {S : World → Prop}

def noQ : Exit → Act → World → Prop := fun _ _ _ => False

/-- In frame 'a' operation 'o' gives 'v', in every world that meets S. -/
def Gives (P : Program) (ops : Array Oper) (S : World → Prop) (o : Oper) (v : Value) (a : Act) : Prop :=
  (Region.wanted o (yielded ops a.tmps) = true ∧ ∀ w, S w → o.wp P a w (fun a' w' => a' = a.put o.dst v ∧ S w') noQ) ∨
  (Region.wanted o (yielded ops a.tmps) = false ∧ v = undef)

/-- The region in the order of its text. -/
def Seq (P : Program) (ops : Array Oper) (S : World → Prop) (Q : Exit → Act → World → Prop) : List Oper → Act → Prop
  | [], a => ∀ w, S w → Q .normal a w
  | o :: rest, a => ∃ v, Gives P ops S o v a ∧ Seq P ops S Q rest (a.put o.dst v)

theorem put_size (a : Act) (d : Option Tmp) (v : Value) : (a.put d v).tmps.size = a.tmps.size := by
  cases d <;> simp [Act.put]
theorem put_defers (a : Act) (d : Option Tmp) (v : Value) : (a.put d v).defers = a.defers := by
  cases d <;> simp [Act.put]
theorem put_get (a : Act) (d : Option Tmp) (v : Value) (t : Nat) : (a.put d v).tmps[t]? = if d = some t ∧ t < a.tmps.size then some v else a.tmps[t]? := by
  cases d with
  | none => simp [Act.put]
  | some d =>
    simp only [Act.put, Array.getElem?_setIfInBounds, Option.some.injEq]
    by_cases h : d = t
    · subst h
      by_cases h' : d < a.tmps.size <;> simp [h']
    · simp [h]
theorem act_ext {a b : Act} (hs : ∀ t : Nat, a.tmps[t]? = b.tmps[t]?) (hd : a.defers = b.defers) : a = b := by
  obtain ⟨ta, da⟩ := a; obtain ⟨tb, db⟩ := b
  simp only at hs hd
  subst hd
  congr
  exact Array.ext_getElem? hs
theorem put_same {a b : Act} {d : Option Tmp} {v u : Value} (hs : a.tmps.size = b.tmps.size) (h : a.put d v = a.put d u) : b.put d v = b.put d u := by
  refine act_ext (fun t => ?_) (by rw [put_defers, put_defers])
  have h1 : (a.put d v).tmps[t]? = (a.put d u).tmps[t]? := by rw [h]
  rw [put_get, put_get] at h1 ⊢
  rw [hs] at h1
  split
  · rename_i hc; rw [if_pos hc, if_pos hc] at h1; exact h1
  · rfl

/-- The same operation, run in another frame that looks the same to it. -/
theorem gives_wpOp {o : Oper} {v : Value} {a b : Act} {i : Nat} (hi : ops[i]? = some o) (hs : a.tmps.size = b.tmps.size)
    (he : execOp b.eval o = execOp a.eval o) (hw : Region.wanted o (yielded ops b.tmps) = Region.wanted o (yielded ops a.tmps))
    (hg : Gives P ops S o v a) {K : Act → World → Prop} {w : World} (hS : S w) (hK : ∀ w', S w' → K (b.put o.dst v) w') : wpOp P ops Q i K b w := by
  unfold wpOp
  simp only [hi]
  rcases hg with ⟨h1, h2⟩ | ⟨h1, rfl⟩
  · rw [hw, h1, if_pos rfl]
    refine .inl ?_
    have h3 := h2 w hS
    unfold Oper.wp at h3 ⊢
    rw [he]
    generalize (execOp a.eval o).run P w = r at *
    cases r with
    | ok n w' =>
      cases n <;> simp only [Oper.upon] at h3 ⊢
      case value u => rw [put_same hs h3.1]; exact hK _ h3.2
      case skip => rw [put_same hs h3.1]; exact hK _ h3.2
      case defer d =>
        have h4 := congrArg (fun x => x.defers.length) h3.1
        simp only [put_defers] at h4
        simp at h4
      case enter f args =>
        refine Calls.mono h3 fun e w'' he => ?_
        cases e with
        | returned u => simp only at he ⊢; rw [put_same hs he.1]; exact hK _ he.2
        | panicked c => exact (he : False).elim
        | outgrown => obtain ⟨_, _, h⟩ := he; exact (h : False).elim
      case row row args => exact Rows.mono h3 fun u w'' he => by rw [put_same hs he.1]; exact hK _ he.2
    | halt x w' =>
      cases x <;> simp only [Oper.upon] at h3
      case panic u => exact (h3 : False).elim
  · rw [hw, h1]
    simp only [Bool.false_eq_true, if_false]
    exact hK _ hS

/-- The frames on the way of the text. -/
def way (ops : Array Oper) (V : Nat → Value) (a : Act) : Nat → Act
  | 0 => a
  | k + 1 => match ops[k]? with
    | some o => (way ops V a k).put o.dst (V k)
    | none => way ops V a k

theorem way_size (V : Nat → Value) (a : Act) : ∀ k, (way ops V a k).tmps.size = a.tmps.size
  | 0 => rfl
  | k + 1 => by unfold way; split <;> simp [put_size, way_size V a k]
theorem way_defers (V : Nat → Value) (a : Act) : ∀ k, (way ops V a k).defers = a.defers
  | 0 => rfl
  | k + 1 => by unfold way; split <;> simp [put_defers, way_defers V a k]

/-- A slot on the way: what its writer gave, if it has come. -/
theorem way_get (hdt : detText ops = true) (V : Nat → Value) (a : Act) (t : Nat) (ht : t < a.tmps.size) : ∀ k, k ≤ ops.size →
    (∀ i o, i < k → ops[i]? = some o → o.dst = some t → (way ops V a k).tmps[t]? = some (V i)) ∧
    ((∀ i o, i < k → ops[i]? = some o → o.dst ≠ some t) → (way ops V a k).tmps[t]? = a.tmps[t]?)
  | 0, _ => ⟨fun i o h => by omega, fun _ => rfl⟩
  | k + 1, hk => by
    obtain ⟨o, ho⟩ : ∃ o, ops[k]? = some o := ⟨ops[k]'(by omega), by simp⟩
    obtain ⟨ih1, ih2⟩ := way_get hdt V a t ht k (by omega)
    have e : way ops V a (k + 1) = (way ops V a k).put o.dst (V k) := by simp only [way, ho]
    rw [e, put_get, way_size]
    refine ⟨fun i oi hi hoi hd => ?_, fun hno => ?_⟩
    · by_cases hik : i = k
      · subst hik
        rw [ho] at hoi; cases hoi
        rw [if_pos ⟨hd, ht⟩]
      · have hd' := ((detText_spec hdt).2.2 i k oi o (by omega) hoi ho).2 t hd
        rw [if_neg (by simp [hd']), ih1 i oi (by omega) hoi hd]
    · rw [if_neg (by intro h; exact hno k o (by omega) ho h.1), ih2 (fun i oi hi => hno i oi (by omega))]

/-- The frames of whatever order: 'L' has come. -/
structure At (ops : Array Oper) (V : Nat → Value) (a : Act) (L : Array Bool) (b : Act) : Prop where
  len : L.size = ops.size
  size : b.tmps.size = a.tmps.size
  defers : b.defers = a.defers
  closed : ∀ k o e, L.getD k false = true → ops[k]? = some o → e ∈ o.after → Region.binds .any e = true → L.getD e.on false = true
  come : ∀ k o t, L.getD k false = true → ops[k]? = some o → o.dst = some t → t < a.tmps.size → b.tmps[t]? = some (V k)
  left : ∀ t, t < a.tmps.size → (∀ k o, L.getD k false = true → ops[k]? = some o → o.dst ≠ some t) → b.tmps[t]? = a.tmps[t]?

theorem waits_spec {j i : Nat} {oj : Oper} (hj : ops[j]? = some oj) (h : waits ops j i = true) : ∃ e, e ∈ oj.after ∧ Region.binds .any e = true ∧ e.on = i := by
  simp only [waits, hj, List.any_eq_true] at h
  obtain ⟨e, he, h⟩ := h
  simp only [Bool.and_eq_true, beq_iff_eq] at h
  exact ⟨e, by simpa using he, h.1, h.2⟩

theorem at_looks (hdt : detText ops = true) {V : Nat → Value} {a b : Act} {L : Array Bool} (hat : At ops V a L b) {i : Nat} {o : Oper} (ho : ops[i]? = some o)
    (hi : L.getD i true = false) (hall : ∀ e ∈ o.after, Region.binds .any e = true → L.getD e.on false = true) (t : Nat) (htl : t ∈ o.looksAt ops) :
    b.tmps[t]? = (way ops V a i).tmps[t]? := by
  have hisz : i < ops.size := (Array.getElem?_eq_some_iff.1 ho).1
  have hi' : L.getD i false = false := by
    have : i < L.size := by rw [hat.len]; exact hisz
    simpa [Array.getD, this] using hi
  by_cases ht : t < a.tmps.size
  · obtain ⟨g1, g2⟩ := way_get hdt V a t ht i (by omega)
    by_cases hw : ∃ k ok, k < i ∧ ops[k]? = some ok ∧ ok.dst = some t
    · obtain ⟨k, ok, hk, hok, hd⟩ := hw
      rw [g1 k ok hk hok hd]
      rcases ((detText_spec hdt).2.2 k i ok o hk hok ho).1 with h | h
      · obtain ⟨e, he, hb, rfl⟩ := waits_spec ho h
        exact hat.come _ ok t (hall e he hb) hok hd ht
      · exact absurd htl ((Oper.apart_spec h).1 t hd)
    · have hno : ∀ k ok, k < i → ops[k]? = some ok → ok.dst ≠ some t := fun k ok hk hok hd => hw ⟨k, ok, hk, hok, hd⟩
      rw [g2 hno]
      refine hat.left t ht fun k ok hLk hok hd => ?_
      have hki : k ≠ i := by rintro rfl; rw [hi'] at hLk; cases hLk
      rcases Nat.lt_or_ge k i with hlt | hge
      · exact hno k ok hlt hok hd
      · rcases ((detText_spec hdt).2.2 i k o ok (by omega) ho hok).1 with h | h
        · obtain ⟨e, he, hb, hon⟩ := waits_spec hok h
          have := hat.closed k ok e hLk hok he hb
          rw [hon, hi'] at this; cases this
        · exact (Oper.apart_spec h).2.2 t hd htl
  · have h1 : b.tmps[t]? = none := Array.getElem?_eq_none (by rw [hat.size]; omega)
    have h2 : (way ops V a i).tmps[t]? = none := Array.getElem?_eq_none (by rw [way_size]; omega)
    rw [h1, h2]

theorem eval_of_get {a b : Act} {x : Operand} (h : ∀ t, x = .tmp t → b.tmps[t]? = a.tmps[t]?) : b.eval x = a.eval x := by
  cases x with
  | tmp t =>
    have := h t rfl
    simp only [Act.eval, Array.getD_eq_getD_getElem?, this]
  | _ => rfl

theorem exec_of_looks {o : Oper} {a b : Act} (hs : ∀ cs c, o.op ≠ .select cs c) (h : ∀ t ∈ o.looksAt ops, b.tmps[t]? = a.tmps[t]?) : execOp b.eval o = execOp a.eval o :=
  execOp_congr o hs fun x hx => eval_of_get fun t e => h t (by
    subst e
    exact List.mem_append_left _ (List.mem_filterMap.2 ⟨.tmp t, by simpa using hx, rfl⟩))
theorem wanted_of_looks {o : Oper} {a b : Act} (h : ∀ t ∈ o.looksAt ops, b.tmps[t]? = a.tmps[t]?) : Region.wanted o (yielded ops b.tmps) = Region.wanted o (yielded ops a.tmps) := by
  unfold Region.wanted
  cases hg : o.guard with
  | none => rfl
  | some gw =>
    obtain ⟨g, want⟩ := gw
    have hy : yielded ops b.tmps g = yielded ops a.tmps g := by
      unfold yielded
      cases ht : (ops[g]?).bind (·.dst) with
      | none => rfl
      | some t =>
        have := h t (by simp [Oper.looksAt, hg, ht])
        simp only [Option.bind_some, this]
    simp only [hy]

/-- How many have not come. -/
def left (L : Array Bool) (n : Nat) : Nat := (List.range n).countP fun i => !L.getD i true
theorem countP_less (p q : Nat → Bool) (i : Nat) (hp : p i = true) (hq : q i = false) (hpq : ∀ j, j ≠ i → q j = p j) : ∀ l : List Nat, l.Nodup → i ∈ l → l.countP q + 1 = l.countP p
  | [], _, h => by cases h
  | x :: l, hn, h => by
    have hn' := List.nodup_cons.1 hn
    by_cases hx : x = i
    · subst hx
      have e : l.countP q = l.countP p := List.countP_congr fun j hj => by
        have : j ≠ x := fun e => hn'.1 (e ▸ hj)
        rw [hpq j this]
      simp only [List.countP_cons, hp, hq, e]
      simp
    · have hm : i ∈ l := by
        rcases List.mem_cons.1 h with h | h
        · exact absurd h.symm hx
        · exact h
      have ih := countP_less p q i hp hq hpq l hn'.2 hm
      simp only [List.countP_cons, hpq x hx]
      omega

theorem any_of_gives (hdt : detText ops = true) (V : Nat → Value) (a : Act) (hG : ∀ i o, ops[i]? = some o → Gives P ops S o (V i) (way ops V a i))
    (hQ : ∀ w, S w → Q .normal (way ops V a ops.size) w) :
    ∀ (fuel : Nat) (L : Array Bool) (b : Act) (w : World), left L ops.size ≤ fuel → At ops V a L b → S w → wpAny P .any ops Q fuel L b w := by
  have hdone : ∀ (L : Array Bool) (b : Act) (w : World), At ops V a L b → S w → Region.ready .any ops L = [] → Q .normal b w := by
    intro L b w hat hS hr
    -- all have come
    have hall : ∀ n i, i < n → i < ops.size → L.getD i false = true := by
      intro n
      induction n with
      | zero => intro i h; omega
      | succ n ih =>
        intro i hin hi
        by_cases hlt : i < n
        · exact ih i hlt hi
        · have hin' : i = n := by omega
          subst hin'
          cases hL : L.getD i false with
          | true => rfl
          | false =>
            exfalso
            have hm : i ∈ Region.ready .any ops L := by
              refine mem_ready.2 ⟨?_, ops[i], by simp [hi], fun e he hb => ?_⟩
              · have : i < L.size := by rw [hat.len]; exact hi
                simpa [Array.getD, this] using hL
              · have hlt' := (detText_spec hdt).2.1 i ops[i] e (by simp [hi]) he hb
                exact ih e.on hlt' (by omega)
            rw [hr] at hm; cases hm
    have e : b = way ops V a ops.size := by
      refine act_ext (fun t => ?_) (by rw [hat.defers, way_defers])
      by_cases ht : t < a.tmps.size
      · obtain ⟨g1, g2⟩ := way_get hdt V a t ht ops.size (Nat.le_refl _)
        by_cases hw : ∃ k ok, k < ops.size ∧ ops[k]? = some ok ∧ ok.dst = some t
        · obtain ⟨k, ok, hk, hok, hd⟩ := hw
          rw [g1 k ok hk hok hd]
          exact hat.come k ok t (hall (k + 1) k (by omega) hk) hok hd ht
        · rw [g2 (fun k ok hk hok hd => hw ⟨k, ok, hk, hok, hd⟩)]
          exact hat.left t ht fun k ok _ hok hd => hw ⟨k, ok, (Array.getElem?_eq_some_iff.1 hok).1, hok, hd⟩
      · rw [Array.getElem?_eq_none (by rw [hat.size]; omega), Array.getElem?_eq_none (by rw [way_size]; omega)]
    rw [e]; exact hQ w hS
  intro fuel
  induction fuel with
  | zero =>
    intro L b w hf hat hS
    have hr : Region.ready .any ops L = [] := by
      cases hr : Region.ready .any ops L with
      | nil => rfl
      | cons i r =>
        exfalso
        have hm : i ∈ Region.ready .any ops L := by rw [hr]; simp
        obtain ⟨h1, o, h2, _⟩ := mem_ready.1 hm
        have hi : i < ops.size := (Array.getElem?_eq_some_iff.1 h2).1
        have : 0 < left L ops.size := List.countP_pos_iff.2 ⟨i, List.mem_range.2 hi, by simp [h1]⟩
        omega
    exact ⟨hr, hdone L b w hat hS hr⟩
  | succ fuel ih =>
    intro L b w hf hat hS
    refine ⟨hdone L b w hat hS, fun i hi => ?_⟩
    obtain ⟨h1, o, ho, hall⟩ := mem_ready.1 hi
    have hisz : i < ops.size := (Array.getElem?_eq_some_iff.1 ho).1
    have hiL : i < L.size := by rw [hat.len]; exact hisz
    have hlook := at_looks hdt hat ho h1 hall
    refine gives_wpOp (S := S) ho (by rw [way_size, hat.size]) (exec_of_looks (ops := ops) (fun cs c => (detText_spec hdt).1 i o cs c ho) hlook) (wanted_of_looks hlook) (hG i o ho) hS fun w' hS' => ?_
    refine ih _ _ w' ?_ ?_ hS'
    · have := countP_less (fun j => !L.getD j true) (fun j => !(L.setIfInBounds i true).getD j true) i (by simp [h1]) (by simp [hiL]) (fun j hj => by rw [getD_set_ne true (Ne.symm hj)]) (List.range ops.size) List.nodup_range (List.mem_range.2 hisz)
      unfold left at hf ⊢
      omega
    · have hset : ∀ k, (L.setIfInBounds i true).getD k false = true ↔ (k = i ∨ L.getD k false = true) := by
        intro k
        by_cases hk : k = i
        · subst hk; simp [hiL]
        · rw [getD_set_ne false (Ne.symm hk)]; simp [hk]
      refine ⟨by simp [hat.len], by rw [put_size, hat.size], by rw [put_defers, hat.defers], ?_, ?_, ?_⟩
      · intro k ok e hk hok he hb
        rw [hset] at hk ⊢
        rcases hk with rfl | hk
        · rw [ho] at hok; cases hok
          exact .inr (hall e he hb)
        · exact .inr (hat.closed k ok e hk hok he hb)
      · intro k ok t hk hok hd ht
        rw [hset] at hk
        rw [put_get, hat.size]
        by_cases hki : k = i
        · subst hki
          rw [ho] at hok; cases hok
          rw [if_pos ⟨hd, ht⟩]
        · have hk' := hk.resolve_left hki
          have hne : o.dst ≠ some t := by
            rcases Nat.lt_or_gt_of_ne hki with h | h
            · exact ((detText_spec hdt).2.2 k i ok o h hok ho).2 t hd
            · intro h3; exact ((detText_spec hdt).2.2 i k o ok h ho hok).2 t h3 hd
          rw [if_neg (by intro h; exact hne h.1)]
          exact hat.come k ok t hk' hok hd ht
      · intro t ht hno
        have hne : o.dst ≠ some t := hno i o ((hset i).2 (.inl rfl)) ho
        rw [put_get, if_neg (by intro h; exact hne h.1)]
        exact hat.left t ht fun k ok hk => hno k ok ((hset k).2 (.inr hk))

theorem seq_gives : ∀ (l : List Oper) (k : Nat) (a : Act), (∀ j, l[j]? = ops[k + j]?) → Seq P ops S Q l a →
    ∃ V : Nat → Value, (∀ j o, l[j]? = some o → Gives P ops S o (V (k + j)) ((List.range j).foldl (fun b i => match l[i]? with | some o => b.put o.dst (V (k + i)) | none => b) a)) ∧
      ∀ w, S w → Q .normal ((List.range l.length).foldl (fun b i => match l[i]? with | some o => b.put o.dst (V (k + i)) | none => b) a) w
  | [], k, a, _, h => ⟨fun _ => undef, fun j o hj => by simp at hj, by simpa [Seq] using h⟩
  | o :: l, k, a, hl, h => by
    obtain ⟨v, hg, hr⟩ := h
    obtain ⟨V, h1, h2⟩ := seq_gives l (k + 1) (a.put o.dst v) (fun j => by have := hl (j + 1); simpa [Nat.add_assoc, Nat.add_comm 1 j] using this) hr
    refine ⟨fun i => if i = k then v else V i, fun j oj hj => ?_, ?_⟩
    · cases j with
      | zero =>
        simp at hj; subst hj
        simpa using hg
      | succ j =>
        have := h1 j oj (by simpa using hj)
        rw [List.range_succ_eq_map, List.foldl_cons, List.foldl_map]
        simp only [Nat.succ_eq_add_one, List.getElem?_cons_zero, Nat.add_zero, if_true, List.getElem?_cons_succ]
        have e : ∀ i, (if k + (i + 1) = k then v else V (k + (i + 1))) = V (k + 1 + i) := fun i => by rw [if_neg (by omega), show k + (i + 1) = k + 1 + i by omega]
        simp only [e]
        exact this
    · rw [List.length_cons, List.range_succ_eq_map, List.foldl_cons, List.foldl_map]
      simp only [Nat.succ_eq_add_one, List.getElem?_cons_zero, Nat.add_zero, if_true, List.getElem?_cons_succ]
      have e : ∀ i, (if k + (i + 1) = k then v else V (k + (i + 1))) = V (k + 1 + i) := fun i => by rw [if_neg (by omega), show k + (i + 1) = k + 1 + i by omega]
      simp only [e]
      exact h2

theorem way_fold (V : Nat → Value) (a : Act) : ∀ k, way ops V a k = (List.range k).foldl (fun b i => match ops[i]? with | some o => b.put o.dst (V i) | none => b) a
  | 0 => rfl
  | k + 1 => by
    rw [List.range_succ, List.foldl_append, List.foldl_cons, List.foldl_nil, ← way_fold V a k]
    rfl

/-- THE LAW. -/
theorem wp_region_seq {id : Nat} {l : List Oper} {a : Act} {w : World} (hm : P.follows .mixedOrders = true) (hdt : detText l.toArray = true) (hS : S w.drew) (h : Seq P l.toArray S Q l a) :
    (Code.region id l.toArray true).wp P Q a w := by
  obtain ⟨V, h1, h2⟩ := seq_gives (ops := l.toArray) l 0 a (fun j => by simp) h
  simp only [Nat.zero_add] at h1 h2
  refine wp_region_any hm (any_of_gives hdt V a (fun i o hi => ?_) (fun w' hS' => ?_) _ _ _ _ ?_ ?_ hS)
  · have := h1 i o (by simpa using hi)
    rw [way_fold]
    simpa using this
  · have := h2 w' hS'
    rw [way_fold]
    simpa using this
  · unfold left
    exact Nat.le_trans List.countP_le_length (by simp)
  · refine ⟨by simp, rfl, rfl, ?_, ?_, fun _ _ _ => rfl⟩
    · intro k o e hk
      simp [Array.getD] at hk
    · intro k o t hk
      simp [Array.getD] at hk

/-! ### the moves -/
theorem seq_nil {a : Act} (h : ∀ w, S w → Q .normal a w) : Seq P ops S Q [] a := h
theorem seq_skip {o : Oper} {rest : List Oper} {a : Act} (hw : Region.wanted o (yielded ops a.tmps) = false) (h : Seq P ops S Q rest (a.put o.dst undef)) : Seq P ops S Q (o :: rest) a :=
  ⟨undef, .inr ⟨hw, rfl⟩, h⟩
theorem seq_val {o : Oper} {rest : List Oper} {a : Act} {v : Value} (hw : Region.wanted o (yielded ops a.tmps) = true) (hv : ∀ w, S w → (execOp a.eval o).run P w = .ok (.value v) w)
    (h : Seq P ops S Q rest (a.put o.dst v)) : Seq P ops S Q (o :: rest) a :=
  ⟨v, .inl ⟨hw, fun w hS => by unfold Oper.wp; rw [hv w hS]; exact ⟨rfl, hS⟩⟩, h⟩
theorem seq_call {o : Oper} {rest : List Oper} {a : Act} {v : Value} {f : FuncId} {args : Array Value} (hw : Region.wanted o (yielded ops a.tmps) = true) (hr : ∀ w, (execOp a.eval o).run P w = .ok (.enter f args) w)
    (hc : ∀ w, S w → Calls P f args w fun e w' => e = .returned v ∧ S w') (h : Seq P ops S Q rest (a.put o.dst v)) : Seq P ops S Q (o :: rest) a :=
  ⟨v, .inl ⟨hw, fun w hS => by unfold Oper.wp; rw [hr w]; exact (hc w hS).mono fun e w' ⟨he, hs⟩ => by subst he; exact ⟨rfl, hs⟩⟩, h⟩
end

/-! ### the moves of a walk through a region whose order is drawn, the condition S growing on the way -/
section
variable {P : Program} {ops : Array Oper} {Q : Exit → Act → World → Prop} {S S' : World → Prop}

theorem ah_mono (hs : ∀ w, S' w → S w) : ∀ (fuel : Nat) (L : Array Bool) (a : Act) (w : World), wpAnyH P .any ops Q S' fuel L a w → wpAnyH P .any ops Q S fuel L a w
  | 0, _, _, _, h => h
  | fuel + 1, _, _, _, h => ⟨h.1, fun i hi => wpOp_mono (fun _ _ h' => ⟨hs _ h'.1, ah_mono hs fuel _ _ _ h'.2⟩) (h.2 i hi)⟩

theorem ah_skip (i : Nat) {oi : Oper} {fuel : Nat} {L : Array Bool} {a : Act} {w : World} (hi : ops[i]? = some oi) (hs : Region.noSelect ops = true) (hf : Region.free .any ops L i = true)
    (hr : (Region.ready .any ops L).contains i = true) (hQ : ∀ c a w, Q (.panic c) (a.put oi.dst undef) w → Q (.panic c) a w) (hw : Region.wanted oi (yielded ops a.tmps) = false) (hS : S w)
    (h : wpAnyH P .any ops Q S fuel (L.setIfInBounds i true) (a.put oi.dst undef) w) : wpAnyH P .any ops Q S (fuel + 1) L a w :=
  wpAnyH_take hi hs hf hr hQ (.inr ⟨hw, rfl⟩) hS h

theorem ah_val (i : Nat) {oi : Oper} {v : Value} {fuel : Nat} {L : Array Bool} {a : Act} {w : World} (hi : ops[i]? = some oi) (hs : Region.noSelect ops = true) (hf : Region.free .any ops L i = true)
    (hr : (Region.ready .any ops L).contains i = true) (hQ : ∀ c a w, Q (.panic c) (a.put oi.dst v) w → Q (.panic c) a w) (hw : Region.wanted oi (yielded ops a.tmps) = true) (hS : S w)
    (hv : ∀ w, S w → (execOp a.eval oi).run P w = .ok (.value v) w)
    (h : wpAnyH P .any ops Q S fuel (L.setIfInBounds i true) (a.put oi.dst v) w) : wpAnyH P .any ops Q S (fuel + 1) L a w :=
  wpAnyH_take hi hs hf hr hQ (.inl ⟨hw, hv⟩) hS h

theorem ah_call (i : Nat) {oi : Oper} {f : FuncId} {args : Array Value} {fuel : Nat} {L : Array Bool} {a : Act} {w : World} (hi : ops[i]? = some oi)
    (hr : Region.ready .any ops L = [i]) (hw : Region.wanted oi (yielded ops a.tmps) = true) (hrun : (execOp a.eval oi).run P w = .ok (.enter f args) w)
    (hc : Calls P f args w fun e w' => ∃ v, e = .returned v ∧ S w' ∧ wpAnyH P .any ops Q S fuel (L.setIfInBounds i true) (a.put oi.dst v) w') : wpAnyH P .any ops Q S (fuel + 1) L a w := by
  refine wpAnyH_all hr (by simp) fun j hj => ?_
  have hji : j = i := by simpa using hj
  subst hji
  unfold wpOp
  simp only [hi, hw, if_true]
  refine .inl ?_
  unfold Oper.wp
  rw [hrun]
  refine hc.mono fun e w' ⟨v, he, hs, h⟩ => ?_
  subst he
  exact ⟨hs, h⟩
end
end Go.Proofs.Ythkpgjcnnfdibaa

/-! What every law's last step shares: how an argument is opened. No condition. -/
namespace Go.Proofs.Ythkpgjcnnfdibaa
open Go.ChangeShapes Go.WideShapes Go.ChangeAt Go.RowKit Go.Joins Go.Deep

theorem own : ownKnob Try.prog.godebug = none := by kernel_rfl
theorem laidOut : laidOutB Try.prog = true := by kernel_rfl

section
variable {H : Type} {enc : TypeId × Value → H} {P : Program} {W : World} {base : Nat} {spare : Nat → Bool} {held : Bool}
theorem open_i {r : Reach} {b0 : Nat} {t : TypeId} {k : IntKind} {v : Value} {d : DataW H} {p : List MemPlace} (ht : P.underlying t = some (.int k)) (hv : Value.okWide P W r b0 t v) (h : DataW.Trod enc P W base spare held t v d p) :
    ∃ a, v = .int k a ∧ (Lit.int k a).wf = true := by
  obtain ⟨a, e, _, _, w⟩ := open_int ht hv h
  exact ⟨a, e, w⟩
theorem i64_bd {a : Int} (h : (Lit.int .i64 a).wf = true) : -9223372036854775808 ≤ a ∧ a ≤ 9223372036854775807 := by
  simp [Lit.wf, IntKind.min, IntKind.max, IntKind.signed, IntKind.bits] at h
  omega
theorem u64_bd {a : Int} (h : (Lit.int .u64 a).wf = true) : 0 ≤ a ∧ a < 18446744073709551616 := by
  simp [Lit.wf, IntKind.min, IntKind.max, IntKind.signed, IntKind.bits] at h
  omega
theorem u8_bd {a : Int} (h : (Lit.int .u8 a).wf = true) : 0 ≤ a ∧ a < 256 := by
  simp [Lit.wf, IntKind.min, IntKind.max, IntKind.signed, IntKind.bits] at h
  omega
theorem open_two {r : Reach} {b0 : Nat} {t u : TypeId} {f0 f1 : Field} {v : Value} {d : DataW H} {p : List MemPlace} (hs : P.underlying t = some (.struct #[f0, f1])) (hone : oneCellFields P #[f0, f1] = true) (hC : P.cellsOf t = 2)
    (hu : P.underlying u = some (.int .i64)) (e0 : f0.type = u) (e1 : f1.type = u) (hv : Value.okWide P W r b0 t v) (h : DataW.Trod enc P W base spare held t v d p) :
    ∃ a b, v = .agg #[.int .i64 a, .int .i64 b] ∧ (Lit.int .i64 a).wf = true ∧ (Lit.int .i64 b).wf = true := by
  obtain ⟨c0, c1, y0, y1, m, rfl, _, _, h0, h1⟩ := Joins.open_agg2 hs hone hC hv h
  rw [e0] at h0; rw [e1] at h1
  obtain ⟨a, ea, _, wa⟩ := DataW.trod_int hu h0
  obtain ⟨b, eb, _, wb⟩ := DataW.trod_int hu h1
  simp at ea eb
  subst ea eb
  exact ⟨a, b, rfl, wa, wb⟩
end
end Go.Proofs.Ythkpgjcnnfdibaa

/-! How a slice of integers that comes in is opened: a list, and Rd. No condition. -/
namespace Go.Proofs.Ythkpgjcnnfdibaa
open Go.ChangeShapes Go.WideShapes Go.ChangeAt Go.RowKit Go.Joins Go.Deep

theorem cell_lt {W : World} {p : Addr} {v : Value} (h : W.cell? p = some v) : p.block < W.heap.size := by
  rcases Nat.lt_or_ge p.block W.heap.size with h1 | h1
  · exact h1
  · exfalso
    have h2 : W.heap[p.block]? = none := Array.getElem?_eq_none h1
    simp [World.cell?, h2] at h

section
variable {H : Type} {enc : TypeId × Value → H} {P : Program} {W : World} {base : Nat} {spare : Nat → Bool} {held : Bool}

theorem rd_of {W : World} {a : Addr} {xs : List Value} (h : ∀ i u, xs[i]? = some u → W.cell? (a.add i) = some u) : Rd W W.heap.size (some a) xs := by
  match xs, h with
  | [], _ => exact .inl rfl
  | x :: r, h =>
    have h0 := h 0 x rfl
    obtain ⟨b, o, s⟩ := a
    have hs : s = none := by simpa [Addr.add] using World.cell?_spot h0
    subst hs
    have hb : b < W.heap.size := by
      have := cell_lt h0
      simpa [Addr.add] using this
    exact .inr ⟨b, o, rfl, hb, fun j u hu => by rw [← add_plain]; exact h j u hu⟩

theorem open_nums {r : Reach} {b0 : Nat} {t e : TypeId} {k : IntKind} {v : Value} {d : DataW H} {p : List MemPlace} (ht : P.underlying t = some (.slice e)) (he : P.underlying e = some (.int k)) (hc : P.cellsOf e = 1)
    (hv : Value.okWide P W r b0 t v) (h : DataW.Trod enc P W base spare held t v d p) :
    ∃ (A : Option Addr) (zs : List Int) (c : Nat), v = .slice A zs.length c ∧ Rd W W.heap.size A (zs.map (Value.int k)) ∧ (∀ z ∈ zs, (Lit.int k z).wf = true) ∧ zs.length ≤ c ∧ c ≤ maxLen := by
  obtain ⟨A, len, c, rfl⟩ := okWide_slice ht hv
  obtain ⟨fuel, hf⟩ := h
  rcases open_ints ht he hc hf with ⟨hcs, _⟩ | ⟨a, len', cap, zs, hcs, _, hlc, hcm, hlen, _, hcell, hwf⟩
  · simp [Value.cells] at hcs
    obtain ⟨rfl, rfl, rfl⟩ := hcs
    exact ⟨none, [], 0, rfl, .inl rfl, by simp, by simp, by simp⟩
  · simp [Value.cells] at hcs
    obtain ⟨rfl, rfl, rfl⟩ := hcs
    have hl : len ≤ zs.length := by rw [hlen]; split <;> omega
    refine ⟨some a, zs.take len, c, by rw [List.length_take, Nat.min_eq_left hl], rd_of ?_, fun z hz => hwf z (List.mem_of_mem_take hz), by rw [List.length_take]; omega, hcm⟩
    intro i u hu
    rw [List.getElem?_map] at hu
    obtain ⟨z, hz, rfl⟩ := Option.map_eq_some_iff.1 hu
    have hi : i < len := by
      have := (List.getElem?_eq_some_iff.1 hz).1
      rw [List.length_take] at this; omega
    rw [List.getElem?_take, if_pos hi] at hz
    have := hcell i (by omega)
    rw [this, List.getD_eq_getElem?_getD, hz]
    rfl

theorem bytes_list : ∀ zs : List Int, (∀ z ∈ zs, (Lit.int .u8 z).wf = true) → ∃ l : List UInt8, l.length = zs.length ∧ zs.map (Value.int .u8) = l.map fun c => Value.int .u8 (c.toNat : Int)
  | [], _ => ⟨[], rfl, rfl⟩
  | z :: r, h => by
    obtain ⟨l, h1, h2⟩ := bytes_list r fun z hz => h z (List.mem_cons_of_mem _ hz)
    have hz := u8_bd (h z (List.mem_cons_self ..))
    refine ⟨UInt8.ofNat z.toNat :: l, by simp [h1], ?_⟩
    have e : ((UInt8.ofNat z.toNat).toNat : Int) = z := by
      rw [UInt8.toNat_ofNat']
      omega
    simp only [List.map_cons, h2, e]

theorem open_bytes {r : Reach} {b0 : Nat} {t e : TypeId} {v : Value} {d : DataW H} {p : List MemPlace} (ht : P.underlying t = some (.slice e)) (he : P.underlying e = some (.int .u8)) (hc : P.cellsOf e = 1)
    (hv : Value.okWide P W r b0 t v) (h : DataW.Trod enc P W base spare held t v d p) :
    ∃ (A : Option Addr) (l : List UInt8) (c : Nat), v = .slice A l.length c ∧ Rd W W.heap.size A (l.map fun c => Value.int .u8 (c.toNat : Int)) ∧ (l.length ≤ c ∧ c ≤ maxLen) := by
  obtain ⟨A, zs, c, rfl, hr, hw, hm⟩ := open_nums ht he hc hv h
  obtain ⟨l, h1, h2⟩ := bytes_list zs hw
  exact ⟨A, l, c, by rw [h1], by rw [← h2]; exact hr, by omega⟩
theorem nats_list : ∀ zs : List Int, (∀ z ∈ zs, (Lit.int .u64 z).wf = true) → ∃ l : List Nat, l.length = zs.length ∧ zs.map (Value.int .u64) = l.map (fun c : Nat => Value.int .u64 (c : Int)) ∧ ∀ c ∈ l, c < 18446744073709551616
  | [], _ => ⟨[], rfl, rfl, by simp⟩
  | z :: r, h => by
    obtain ⟨l, h1, h2, h3⟩ := nats_list r fun z hz => h z (List.mem_cons_of_mem _ hz)
    have hz := u64_bd (h z (List.mem_cons_self ..))
    refine ⟨z.toNat :: l, by simp [h1], ?_, ?_⟩
    · have e : ((z.toNat : Nat) : Int) = z := by omega
      simp only [List.map_cons, h2, e]
    · intro c hc
      rcases List.mem_cons.1 hc with rfl | hc
      · omega
      · exact h3 c hc
theorem open_u64s {r : Reach} {b0 : Nat} {t e : TypeId} {v : Value} {d : DataW H} {p : List MemPlace} (ht : P.underlying t = some (.slice e)) (he : P.underlying e = some (.int .u64)) (hc : P.cellsOf e = 1)
    (hv : Value.okWide P W r b0 t v) (h : DataW.Trod enc P W base spare held t v d p) :
    ∃ (A : Option Addr) (l : List Nat) (c : Nat), v = .slice A l.length c ∧ Rd W W.heap.size A (l.map fun c : Nat => Value.int .u64 (c : Int)) ∧ (l.length ≤ c ∧ c ≤ maxLen) ∧ ∀ c ∈ l, c < 18446744073709551616 := by
  obtain ⟨A, zs, c, rfl, hr, hw, hm⟩ := open_nums ht he hc hv h
  obtain ⟨l, h1, h2, h3⟩ := nats_list zs hw
  exact ⟨A, l, c, by rw [h1], by rw [← h2]; exact hr, by omega, h3⟩
end
end Go.Proofs.Ythkpgjcnnfdibaa

/-! The start and the moves of a walk through a region whose order is drawn. Holds over any program. -/
namespace Go.Proofs.Ythkpgjcnnfdibaa
open Go.RowKit
section
variable {P : Program} {l : List Oper} {Q : Exit → Act → World → Prop} {S : World → Prop}
theorem ah_start {id : Nat} {ops : Array Oper} {a : Act} {w : World} (n : Nat) (S : World → Prop) (hn : ops.size = n) (hm : P.follows .mixedOrders = true) (hS : S w.drew)
    (h : S w.drew → wpAnyH P .any ops Q S n (Array.replicate n false) a w.drew) : (Code.region id ops true).wp P Q a w := by
  subst hn
  exact wp_region_held_drew hm hS h
theorem mv_skip (i : Nat) {oi : Oper} {fuel : Nat} {L : Array Bool} {a : Act} {w : World} (hi : l[i]? = some oi) (hs : Region.noSelect l.toArray = true) (hf : Region.free .any l.toArray L i = true)
    (hr : (Region.ready .any l.toArray L).contains i = true) (hQ : ∀ c a w, Q (.panic c) (a.put oi.dst undef) w → Q (.panic c) a w) (hw : Region.wanted oi (yielded l.toArray a.tmps) = false) (hS : S w)
    (h : wpAnyH P .any l.toArray Q S fuel (L.setIfInBounds i true) (a.put oi.dst undef) w) : wpAnyH P .any l.toArray Q S (fuel + 1) L a w :=
  ah_skip i (by simpa using hi) hs hf hr hQ hw hS h
theorem mv_val (i : Nat) {oi : Oper} {v : Value} {fuel : Nat} {L : Array Bool} {a : Act} {w : World} (hi : l[i]? = some oi) (hs : Region.noSelect l.toArray = true) (hf : Region.free .any l.toArray L i = true)
    (hr : (Region.ready .any l.toArray L).contains i = true) (hQ : ∀ c a w, Q (.panic c) (a.put oi.dst v) w → Q (.panic c) a w) (hw : Region.wanted oi (yielded l.toArray a.tmps) = true) (hS : S w)
    (hv : ∀ w, S w → (execOp a.eval oi).run P w = .ok (.value v) w)
    (h : wpAnyH P .any l.toArray Q S fuel (L.setIfInBounds i true) (a.put oi.dst v) w) : wpAnyH P .any l.toArray Q S (fuel + 1) L a w :=
  ah_val i (by simpa using hi) hs hf hr hQ hw hS hv h
theorem mv_call (i : Nat) {oi : Oper} {f : FuncId} {args : Array Value} {fuel : Nat} {L : Array Bool} {a : Act} {w : World} (hi : l[i]? = some oi)
    (hr : Region.ready .any l.toArray L = [i]) (hw : Region.wanted oi (yielded l.toArray a.tmps) = true) (hrun : (execOp a.eval oi).run P w = .ok (.enter f args) w)
    (hc : Calls P f args w fun e w' => ∃ v, e = .returned v ∧ S w' ∧ wpAnyH P .any l.toArray Q S fuel (L.setIfInBounds i true) (a.put oi.dst v) w') : wpAnyH P .any l.toArray Q S (fuel + 1) L a w :=
  ah_call i (by simpa using hi) hr hw hrun hc
end
end Go.Proofs.Ythkpgjcnnfdibaa

/-! One move more of a walk through a region whose order is drawn: an operation that writes or makes memory, where it is the only one that may come up. Holds over any program. -/
namespace Go.Proofs.Ythkpgjcnnfdibaa
open Go.RowKit
section
variable {P : Program} {l : List Oper} {Q : Exit → Act → World → Prop} {S : World → Prop}
theorem mv_step (i : Nat) {oi : Oper} {fuel : Nat} {L : Array Bool} {a : Act} {w : World} (hi : l[i]? = some oi)
    (hr : Region.ready .any l.toArray L = [i]) (hw : Region.wanted oi (yielded l.toArray a.tmps) = true)
    (h : ∀ K : Act → World → Prop, (∀ a' w', S w' → wpAnyH P .any l.toArray Q S fuel (L.setIfInBounds i true) a' w' → K a' w') → oi.wp P a w K Q) : wpAnyH P .any l.toArray Q S (fuel + 1) L a w := by
  have hi' : l.toArray[i]? = some oi := by simpa using hi
  refine wpAnyH_all hr (by simp) fun j hj => ?_
  have hji : j = i := by simpa using hj
  subst hji
  unfold wpOp
  simp only [hi', hw, if_true]
  refine .inl ?_
  exact h _ fun _ _ hs hh => ⟨hs, hh⟩
end
end Go.Proofs.Ythkpgjcnnfdibaa

/-! Moves of a walk through a region whose order is drawn, where two operations may come up next: both ways are walked. Holds over any program. -/
namespace Go.Proofs.Ythkpgjcnnfdibaa
open Go.RowKit
section
variable {P : Program} {l : List Oper} {Q : Exit → Act → World → Prop} {S : World → Prop}
theorem wpOp_of {ops : Array Oper} {i : Nat} {oi : Oper} {a : Act} {w : World} {K : Act → World → Prop} (hi : ops[i]? = some oi) (hw : Region.wanted oi (yielded ops a.tmps) = true) (h : oi.wp P a w K Q) : wpOp P ops Q i K a w := by
  unfold wpOp
  simp only [hi, hw, if_true]
  exact .inl h
theorem mv_two (i j : Nat) {oi oj : Oper} {fuel : Nat} {L : Array Bool} {a : Act} {w : World} (hi : l[i]? = some oi) (hj : l[j]? = some oj)
    (hr : Region.ready .any l.toArray L = [i, j]) (hwi : Region.wanted oi (yielded l.toArray a.tmps) = true) (hwj : Region.wanted oj (yielded l.toArray a.tmps) = true)
    (h1 : ∀ K : Act → World → Prop, (∀ a' w', S w' → wpAnyH P .any l.toArray Q S fuel (L.setIfInBounds i true) a' w' → K a' w') → oi.wp P a w K Q)
    (h2 : ∀ K : Act → World → Prop, (∀ a' w', S w' → wpAnyH P .any l.toArray Q S fuel (L.setIfInBounds j true) a' w' → K a' w') → oj.wp P a w K Q) : wpAnyH P .any l.toArray Q S (fuel + 1) L a w := by
  refine wpAnyH_all hr (by simp) fun k hk => ?_
  have hk' : k = i ∨ k = j := by simpa using hk
  rcases hk' with rfl | rfl
  · exact wpOp_of (by simpa using hi) hwi (h1 _ fun _ _ hs hh => ⟨hs, hh⟩)
  · exact wpOp_of (by simpa using hj) hwj (h2 _ fun _ _ hs hh => ⟨hs, hh⟩)
theorem wp_enter {oi : Oper} {f : FuncId} {args : Array Value} {a : Act} {w : World} {K : Act → World → Prop} {R : Act → World → Prop} (hK : ∀ a' w', S w' → R a' w' → K a' w') (hrun : (execOp a.eval oi).run P w = .ok (.enter f args) w)
    (hc : Calls P f args w fun e w' => ∃ v, e = .returned v ∧ S w' ∧ R (a.put oi.dst v) w') : oi.wp P a w K Q := by
  unfold Oper.wp
  rw [hrun]
  refine hc.mono fun e w' ⟨v, he, hs, h⟩ => ?_
  subst he
  exact hK _ _ hs h
end
end Go.Proofs.Ythkpgjcnnfdibaa

/-! append onto a slice of the call's own, whatever the source: nil, empty or not. Holds over any program. -/
namespace Go.Proofs.Ythkpgjcnnfdibaa
open Go.RowKit

/-- T is the type of slices of E, each of 'sz' cells and 'by_' bytes. -/
def El (P : Program) (T E : TypeId) (sz by_ : Nat) : Prop :=
  ∃ i z, P.underlying T = some (.slice E) ∧ P.info? E = some i ∧ i.zero = some z ∧ i.size = sz ∧ i.bytes = by_ ∧ z.cells.size = sz ∧ 0 < sz

theorem el_of {P : Program} {T E : TypeId} {z : Value} {sz by_ : Nat} (hT : P.underlying T = some (.slice E)) (h : (P.info? E).map (fun i => (i.zero, i.size, i.bytes)) = some (some z, sz, by_)) (hz : z.cells.size = sz) (h0 : 0 < sz) : El P T E sz by_ := by
  obtain ⟨i, hi, h1, h2, h3⟩ := info_parts h
  exact ⟨i, z, hT, hi, h1, h2, h3, hz, h0⟩

section
variable {P : Program} {T E : TypeId} {sz by_ : Nat}

theorem own_below {w w' : World} {base : Nat} {v : Value} {n : Nat} {xs : List Value} (hown : w.ownsRow base E sz v n xs) (hg : w.grownBy w' v.ownBlock) (hb : base ≤ w.heap.size) : Below base w w' :=
  (Below.refl base w).grown hg hb (fun k hk => (hown.lt k hk).1)

theorem run_app (K : El P T E sz by_) (w : World) (ty : TypeId) {base : Nat} {v : Value} {n : Nat} {xs : List Value} (hown : w.ownsRow base E sz v n xs) {B : Nat} {A : Option Addr} {m c : Nat} {news : List Value}
    (hr : Rd w B A news) (hl : news.length = m * sz) (h1 : ∀ u ∈ news, u.oneCell' = true) (h63 : n + m ≤ maxLen) (hbytes : (n + m) * by_ ≤ 140737488355328) (hbase : base ≤ w.heap.size) :
    ∃ v' w', (Builtin.append_ #[T, T] ty #[v, .slice A m c]).run P w = .ok v' w' ∧ w'.ownsRow base E sz v' (n + m) (xs ++ news) ∧ w.grownBy w' v.ownBlock ∧ (v'.ownBlock = v.ownBlock ∨ v'.ownBlock = some w.heap.size) := by
  obtain ⟨i, z, hT, hi, hz, hs, hby, hzs, h0⟩ := K
  have hnil : news = [] → m = 0 := fun h => by
    subst h
    rcases Nat.eq_zero_or_pos m with hm | hm
    · exact hm
    · have := Nat.mul_pos hm h0; simp at hl; omega
  rcases A with _ | ad
  · have hn : news = [] := by
      rcases hr with h | ⟨b, o, h, _⟩
      · exact h
      · cases h
    have hm := hnil hn
    subst hn; subst hm
    refine ⟨v, w, ?_, by simpa using hown, World.grownBy.refl w _, .inl rfl⟩
    rcases hown.2 with ⟨rfl, rfl⟩ | ⟨g, cap, cur, rfl, _, _, hnc, _⟩
    · simp [Builtin.append_, run_underlying hT, sizeOf, typeInfo, hi, Builtin.lenOf, Builtin.firstCells]
    · simp [Builtin.append_, run_underlying hT, sizeOf, typeInfo, hi, Builtin.lenOf, Builtin.firstCells, hnc, storeCells]
  · have hcells : ∀ j u, news[j]? = some u → w.cell? (ad.add j) = some u := by
      intro j u hu
      rcases hr with h | ⟨b, o, h, _, hc⟩
      · subst h; simp at hu
      · injection h with h
        subst h
        have := hc j u hu
        by_cases hj : j = 0
        · subst hj; simpa [Addr.add] using this
        · simpa [Addr.add, hj] using this
    obtain ⟨v', w', hrun, h2, h3, _, h5⟩ := run_append_own_at (P := P) w base T ty E i z sz by_ hT hi hz hs hby hzs h0 v n xs hown ad m c news hl hcells h1 h63 hbytes hbase
    exact ⟨v', w', hrun, h2, h3, h5⟩

theorem wp_app (K : El P T E sz by_) {w : World} {o : Oper} {a : Act} {k : Act → World → Prop} {Q : Exit → Act → World → Prop} (s x : Operand)
    (ho : o.op = .call { callee := .builtin .append, args := #[s, x], argTypes := #[T, T] })
    {base : Nat} {v : Value} {n : Nat} {xs : List Value} (hown : w.ownsRow base E sz v n xs) (hs : a.eval s = v) {B : Nat} {A : Option Addr} {m c : Nat} {news : List Value} (hx : a.eval x = .slice A m c)
    (hr : Rd w B A news) (hl : news.length = m * sz) (h1 : ∀ u ∈ news, u.oneCell' = true) (h63 : n + m ≤ maxLen) (hbytes : (n + m) * by_ ≤ 140737488355328) (hbase : base ≤ w.heap.size)
    (h : ∀ v' w', w'.ownsRow base E sz v' (n + m) (xs ++ news) → w.grownBy w' v.ownBlock → (v'.ownBlock = v.ownBlock ∨ v'.ownBlock = some w.heap.size) → k (a.put o.dst v') w') : o.wp P a w k Q := by
  obtain ⟨v', w', hrun, h2, h3, h4⟩ := run_app (c := c) K w o.type hown hr hl h1 h63 hbytes hbase
  unfold Oper.wp execOp
  simp only [ho, resolve, invoke, builtin, Sem.run_bind, Sem.run_pure, Result.andThen_ok, List.map_toArray, List.map_cons, List.map_nil, hs, hx, hrun]
  exact h v' w' h2 h3 h4

theorem wpList_app (K : El P T E sz by_) {w : World} {ops : Array Oper} {rest : List Oper} {o : Oper} {a : Act} {Q : Exit → Act → World → Prop} (hgd : o.guard = none) (s x : Operand)
    (ho : o.op = .call { callee := .builtin .append, args := #[s, x], argTypes := #[T, T] })
    {base : Nat} {v : Value} {n : Nat} {xs : List Value} (hown : w.ownsRow base E sz v n xs) (hs : a.eval s = v) {B : Nat} {A : Option Addr} {m c : Nat} {news : List Value} (hx : a.eval x = .slice A m c)
    (hr : Rd w B A news) (hl : news.length = m * sz) (h1 : ∀ u ∈ news, u.oneCell' = true) (h63 : n + m ≤ maxLen) (hbytes : (n + m) * by_ ≤ 140737488355328) (hbase : base ≤ w.heap.size)
    (h : ∀ v' w', w'.ownsRow base E sz v' (n + m) (xs ++ news) → w.grownBy w' v.ownBlock → (v'.ownBlock = v.ownBlock ∨ v'.ownBlock = some w.heap.size) → wpList P ops Q rest (a.put o.dst v') w') : wpList P ops Q (o :: rest) a w :=
  wpList_plain hgd fun _ hK => wp_app K s x ho hown hs hx hr hl h1 h63 hbytes hbase fun v' w' h2 h3 h4 => hK _ _ (h v' w' h2 h3 h4)

/-- What is owned reads as its cells. -/
theorem rd_own {w : World} {base n c : Nat} {A : Option Addr} {xs : List Value} (h : w.ownsRow base E sz (.slice A n c) n xs) : Rd w w.heap.size A xs := by
  rcases h.2 with ⟨hv, hn⟩ | ⟨g, cap, cur, hv, hb, hh, hnc, hcm, hcs, hx⟩
  · have := h.1
    subst hn
    exact .inl (List.eq_nil_of_length_eq_zero (by simpa using this))
  · cases hv
    refine .inr ⟨g, 0, rfl, (h.lt g rfl).2, fun j u hu => ?_⟩
    have := h.cells (g := g) rfl j u hu
    by_cases hj : j = 0
    · subst hj; simpa [Addr.add] using this
    · simpa [Addr.add, hj] using this
/-- The shape of a value that is owned. -/
theorem own_form {w : World} {base n : Nat} {v : Value} {xs : List Value} (h : w.ownsRow base E sz v n xs) : ∃ A c, v = .slice A n c ∧ n ≤ c := by
  rcases h.2 with ⟨rfl, rfl⟩ | ⟨g, cap, cur, rfl, _, _, hnc, _⟩
  · exact ⟨none, 0, rfl, Nat.le_refl _⟩
  · exact ⟨_, _, rfl, hnc⟩
end
end Go.Proofs.Ythkpgjcnnfdibaa

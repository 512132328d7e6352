/- Joined texts: see the remark ahead of each part. No condition but those that the parts name. -/
import Derived.Test.YthkpgjcnnfdibaaVrs
import Derived.Test.YthkpgjcnnfdibaaBas
import Derived.Maps.OwnSet
import Derived.Lib.AppendStr
import Derived.Lib.SlBytesConst
/-! Plain functions of layer 3: which values may be, their bytes, how bytes are read. No program in sight. -/
namespace Go.Proofs.Ythkpgjcnnfdibaa
open Go.RowKit
set_option linter.unusedVariables false

def mayB (v : V) : Bool :=
  if v.k = 0 then decide (v.n = 0) && decide (v.t = [])
  else if v.k = 1 then (decide (v.n = 0) || decide (v.n = 1)) && decide (v.t = [])
  else if v.k = 2 then decide (v.t = [])
  else if v.k = 3 then decide (v.n = 0)
  else false
/-- a text's bytes, each 0 followed by 255 -/
def esc : List UInt8 → List UInt8
  | [] => []
  | c :: t => if c = 0 then 0 :: 255 :: esc t else c :: esc t
/-- the eight bytes of a number, the highest first -/
def be : Nat → Nat → List UInt8
  | 0, _ => []
  | k + 1, u => (u / 256 ^ k % 256).toUInt8 :: be k u
def kone (v : V) : List UInt8 :=
  if v.k = 0 then [1]
  else if v.k = 1 then [2, v.n.toNat.toUInt8]
  else if v.k = 2 then 3 :: be 8 (v.n + 9223372036854775808).toNat
  else 4 :: (esc v.t ++ [0, 1])
/-- what Append answers: bytes and error -/
def kapp (b : List UInt8) (l : List V) : List UInt8 × Nat := if l.all mayB then (b ++ l.flatMap kone, 0) else ([], 1)

/-- a text's bytes read: the text, what is left, the error -/
def rtext : List UInt8 → List UInt8 → List UInt8 × List UInt8 × Nat
  | _, [] => ([], [], 20)
  | s, c :: r =>
    if c = 0 then
      match r with
      | [] => ([], [], 20)
      | d :: r' => if d = 1 then (s, r', 0) else if d = 255 then rtext (s ++ [0]) r' else ([], [], 21)
    else rtext (s ++ [c]) r
def num8 : Nat → List UInt8 → Nat
  | u, [] => u
  | u, c :: l => num8 (u * 256 + c.toNat) l
/-- a value read behind its first byte: the value, what is left, the error -/
def rone (c : UInt8) (r : List UInt8) : V × List UInt8 × Nat :=
  if c = 1 then (null, r, 0)
  else if c = 2 then
    match r with
    | [] => (null, [], 20)
    | d :: r' => if 1 < d.toNat then (null, [], 21) else (⟨1, d.toNat, []⟩, r', 0)
  else if c = 3 then
    if r.length < 8 then (null, [], 20) else (⟨2, (num8 0 (r.take 8) : Int) - 9223372036854775808, []⟩, r.drop 8, 0)
  else if c = 4 then
    if (rtext [] r).2.2 = 0 then (⟨3, 0, (rtext [] r).1⟩, (rtext [] r).2.1, 0) else (null, [], (rtext [] r).2.2)
  else (null, [], 21)
def kpF : Nat → List V → List UInt8 → List V × Nat
  | 0, _, _ => ([], 21)
  | _ + 1, acc, [] => (acc, 0)
  | f + 1, acc, c :: r => if (rone c r).2.2 = 0 then kpF f (acc ++ [(rone c r).1]) (rone c r).2.1 else ([], (rone c r).2.2)
def kp (acc : List V) (b : List UInt8) : List V × Nat := kpF (b.length + 1) acc b
def kparse (b : List UInt8) : List V × Nat := kp [] b
theorem xor_top {y : Nat} (hy : y < 9223372036854775808) : y ^^^ 9223372036854775808 = 9223372036854775808 + y := by
  have e : (9223372036854775808 : Nat) = 2 ^ 63 := by decide
  rw [e] at hy ⊢
  apply Nat.eq_of_testBit_eq
  intro i
  rw [Nat.testBit_xor]
  rcases Nat.lt_trichotomy i 63 with h | h | h
  · rw [Nat.testBit_two_pow_add_gt h, Nat.testBit_two_pow_of_ne (by omega)]; simp
  · subst h
    rw [Nat.testBit_two_pow_add_eq, Nat.testBit_two_pow_self, Nat.testBit_lt_two_pow hy]; rfl
  · have h2 : 2 ^ 63 + y < 2 ^ i := by
      have : 2 ^ 64 ≤ 2 ^ i := Nat.pow_le_pow_right (by omega) (by omega)
      omega
    rw [Nat.testBit_lt_two_pow h2, Nat.testBit_two_pow_of_ne (by omega), Nat.testBit_lt_two_pow (show y < 2 ^ i by omega)]; rfl
theorem xor_top2 {x : Nat} (h : 9223372036854775808 ≤ x) (hx : x < 18446744073709551616) : x ^^^ 9223372036854775808 = x - 9223372036854775808 := by
  obtain ⟨y, rfl⟩ : ∃ y, x = 9223372036854775808 + y := ⟨x - 9223372036854775808, by omega⟩
  rw [← xor_top (show y < 9223372036854775808 by omega), Nat.xor_assoc, Nat.xor_self, Nat.xor_zero, xor_top (by omega)]
  omega
theorem xor_i64 (n : Int) (h : -9223372036854775808 ≤ n ∧ n ≤ 9223372036854775807) : bits .xor .u64 (IntKind.u64.wrap n) 9223372036854775808 = (((n + 9223372036854775808).toNat : Nat) : Int) := by
  rw [IntKind.wrap_u64]
  rw [u64_xor _ _ (by omega) (by omega) (by omega) (by omega)]
  have e3 : (9223372036854775808 : Int).toNat = 9223372036854775808 := rfl
  rw [e3]
  congr 1
  rcases Int.lt_or_le n 0 with h0 | h0
  · rw [xor_top2 (by omega) (by omega)]; omega
  · rw [xor_top (by omega)]; omega
end Go.Proofs.Ythkpgjcnnfdibaa

/-! The walk of key.may (layer 3): it answers mayB. -/
namespace Go.Proofs.Ythkpgjcnnfdibaa
open Go.RowKit
set_option linter.unusedVariables false
set_option linter.unusedSimpArgs false

theorem isEmpty_dec (t : List UInt8) : t.isEmpty = decide (t = []) := by cases t <;> rfl
theorem mayB_cases (v : V) : mayB v = if v.k = 0 then decide (v.n = 0) && decide (v.t = []) else if v.k = 1 then (decide (v.n = 0) || decide (v.n = 1)) && decide (v.t = []) else if v.k = 2 then decide (v.t = []) else if v.k = 3 then decide (v.n = 0) else false := rfl

set_option maxRecDepth 100000 in
theorem may_any (v : V) (hk : v.k < 256) (w : World) :
    Calls Try.prog 102 #[va v] w fun e w' => e = .returned (.bool (mayB v)) ∧ Below w.heap.size w w' := by
  obtain ⟨k, n, t⟩ := v
  dsimp only at hk ⊢
  rw [mayB_cases]
  dsimp only
  by_cases h0 : k = 0
  · subst h0
    rw [if_pos rfl]
    clear hk
    go_enter Try.func102, Try.ntmps102
    go_wp2
    go_ret
    exact ⟨rfl, by go_grown⟩
  rw [if_neg h0]
  by_cases h1 : k = 1
  · subst h1
    rw [if_pos rfl]
    clear hk h0
    by_cases hn0 : n = 0
    · subst hn0
      go_enter Try.func102, Try.ntmps102
      go_wp2
      go_ret
      exact ⟨by first | (simp; done) | (simp; exact isEmpty_dec _), by go_grown⟩
    · by_cases hn1 : n = 1
      · subst hn1
        go_enter Try.func102, Try.ntmps102
        go_wp2
        go_ret
        exact ⟨by first | (simp; done) | (simp; exact isEmpty_dec _), by go_grown⟩
      · have e0 : (n == 0) = false := by simpa using hn0
        have e1 : (n == 1) = false := by simpa using hn1
        rw [decide_eq_false hn0, decide_eq_false hn1]
        clear hn0 hn1
        go_enter Try.func102, Try.ntmps102
        go_wp2
        go_ret
        exact ⟨by first | (simp; done) | (simp; exact isEmpty_dec _), by go_grown⟩
  rw [if_neg h1]
  by_cases h2 : k = 2
  · subst h2
    rw [if_pos rfl]
    clear hk h0 h1
    go_enter Try.func102, Try.ntmps102
    go_wp2
    go_ret
    exact ⟨by first | rfl | (simp; done) | (simp; exact isEmpty_dec _), by go_grown⟩
  rw [if_neg h2]
  by_cases h3 : k = 3
  · subst h3
    rw [if_pos rfl]
    clear hk h0 h1 h2
    go_enter Try.func102, Try.ntmps102
    go_wp2
    go_ret
    exact ⟨by first | rfl | (simp; done) | (simp; exact isEmpty_dec _), by go_grown⟩
  rw [if_neg h3]
  have e0 : ((k : Int) == 0) = false := by simp; omega
  have e1 : ((k : Int) == 1) = false := by simp; omega
  have e2 : ((k : Int) == 2) = false := by simp; omega
  have e3 : ((k : Int) == 3) = false := by simp; omega
  clear h0 h1 h2 h3
  go_enter Try.func102, Try.ntmps102
  go_wp2
  go_ret
  exact ⟨by first | rfl | (simp; done) | (simp; exact isEmpty_dec _), by go_grown⟩
end Go.Proofs.Ythkpgjcnnfdibaa

/-! The walk of key.Append (layer 3): it answers kapp, in new memory. For bytes of at most 2^32 in all. -/
namespace Go.Proofs.Ythkpgjcnnfdibaa
open Go.RowKit
set_option linter.unusedVariables false
set_option linter.unusedSimpArgs false

/-- What a call that answers bytes and an error leaves. -/
def RetBE (w : World) (r : List UInt8 × Nat) (e : Ending) (w' : World) : Prop :=
  ∃ A c, e = .returned (.tuple #[.slice A r.1.length c, .int .i64 (r.2 : Int)]) ∧ w'.ownsRow w.heap.size 5 1 (.slice A r.1.length c) r.1.length (cells r.1) ∧ Below w.heap.size w w'
theorem retBE_err {w w' : World} {r : List UInt8 × Nat} {x : Nat} (h : r = ([], x)) (hb : Below w.heap.size w w') : RetBE w r (.returned (.tuple #[.slice none 0 0, .int .i64 (x : Int)])) w' := by
  subst h
  exact ⟨none, 0, rfl, World.ownsRow_nil _ _ _ _, hb⟩
theorem retBE_ok {w w' : World} {r : List UInt8 × Nat} {l : List UInt8} {v : Value} (h : r = (l, 0)) (ho : w'.ownsRow w.heap.size 5 1 v l.length (cells l)) (hb : Below w.heap.size w w') : RetBE w r (.returned (.tuple #[v, .int .i64 0])) w' := by
  subst h
  obtain ⟨A, c, rfl, _⟩ := own_form ho
  exact ⟨A, c, rfl, ho, hb⟩
theorem own_bel {w w' : World} {base : Nat} {e : TypeId} {sz n : Nat} {v : Value} {xs : List Value} (h : w.ownsRow base e sz v n xs) (hb : Below w.heap.size w w') : w'.ownsRow base e sz v n xs := by
  obtain ⟨h1, h2⟩ := h
  refine ⟨h1, ?_⟩
  rcases h2 with h2 | ⟨g, cap, cur, hv, hbase, hg, rest⟩
  · exact .inl h2
  · exact .inr ⟨g, cap, cur, hv, hbase, (hb.block g (Array.getElem?_eq_some_iff.1 hg).1).trans hg, rest⟩
theorem nb_app {v v' : Value} {s b : Nat} (h : v'.ownBlock = v.ownBlock ∨ v'.ownBlock = some s) (hv : v.ownBlock ≠ some b) (hs : b < s) : v'.ownBlock ≠ some b := by
  rcases h with h | h
  · rw [h]; exact hv
  · rw [h]; intro e; cases e; omega
theorem app_cell {w w' : World} {r : Option Nat} {p : Addr} {x : Value} (hg : w.grownBy w' r) (hne : r ≠ some p.block) (hc : w.cell? p = some x) : w'.cell? p = some x := by
  have hlt : p.block < w.heap.size := cell_lt hc
  have h1 : w'.heap[p.block]? = w.heap[p.block]? := hg.block p.block hlt (fun e => hne e.symm)
  unfold World.cell? at hc ⊢
  rw [h1]; exact hc
theorem own_nb {w : World} {base n sz b : Nat} {e : TypeId} {v : Value} {xs : List Value} (h : w.ownsRow base e sz v n xs) (hb : w.heap.size ≤ b) : v.ownBlock ≠ some b := fun e' => by
  have := (h.lt b e').2; omega
theorem esc_append : ∀ a b : List UInt8, esc (a ++ b) = esc a ++ esc b
  | [], b => rfl
  | c :: a, b => by
    simp only [List.cons_append, esc]
    split <;> simp [esc_append a b]
theorem esc_le : ∀ t : List UInt8, t.length ≤ (esc t).length
  | [] => by simp
  | c :: t => by
    have := esc_le t
    simp only [esc]; split <;> simp <;> omega
theorem esc_take_le (t : List UInt8) (k : Nat) : (esc (t.take k)).length ≤ (esc t).length := by
  conv => rhs; rw [← List.take_append_drop k t]
  rw [esc_append, List.length_append]; omega
theorem flat_take {l : List V} {k : Nat} {v : V} (h : l[k]? = some v) : (l.take (k + 1)).flatMap kone = (l.take k).flatMap kone ++ kone v := by
  rw [List.take_add_one, h]; simp
theorem flat_le (l : List V) (k : Nat) : ((l.take k).flatMap kone).length ≤ (l.flatMap kone).length := by
  conv => rhs; rw [← List.take_append_drop k l]
  rw [List.flatMap_append, List.length_append]; omega

set_option maxHeartbeats 4000000 in
set_option maxRecDepth 100000 in
theorem Append_any (B : Nat) (A A' : Option Addr) (c c' : Nat) (b : List UInt8) (l : List V) (w : World) (hb : Rd w B A (cells b)) (hl : Rd w B A' (vcells l)) (hB : B ≤ w.heap.size)
    (hlen : b.length + (l.flatMap kone).length ≤ 4294967296) (hll : l.length ≤ 4294967296) (hok : ∀ v ∈ l, v.k < 256 ∧ i64r v.n) :
    Calls Try.prog 81 #[.slice A b.length c, .slice A' l.length c'] w (RetBE w (kapp b l)) := by
  go_enter Try.func81, Try.ntmps81
  go_wp2_with (at_builtin; refine wpList_app El_u8 rfl _ _ rfl (World.ownsRow_nil w w.heap.size 5 1) rfl rfl hb (by simp) (cells_one b) (by unfold maxLen; omega) (by omega) (Nat.le_refl _) ?_; intro v1 w1 hown1 hg1 _)
  have hb1 := own_below (World.ownsRow_nil w w.heap.size 5 1) hg1 (Nat.le_refl _)
  rw [Nat.zero_add, List.nil_append] at hown1
  go_loopw [6, 16] (fun v6 v16 wr => ∃ (k : Nat) (bs : List UInt8), k ≤ l.length ∧ v16 = .int .i64 k ∧ (∀ v ∈ l.take k, mayB v = true) ∧ bs = b ++ (l.take k).flatMap kone ∧ wr.ownsRow w.heap.size 5 1 v6 bs.length (cells bs) ∧ Below w.heap.size w wr)
    (fun _ v16 _ => l.length - (intOf v16).toNat)
  case atStart => exact ⟨0, b, by omega, rfl, by simp, by simp, hown1, hb1⟩
  case round =>
    obtain ⟨k, bs, hk, rfl, hall, hbs, hown, hnx⟩ := hrel
    obtain ⟨A6, c6, rfl, hc6⟩ := own_form hown
    have HALL := Lib.hid hall
    have HBS := Lib.hid hbs
    have hbl : bs.length ≤ b.length + ((l.take k).flatMap kone).length := by rw [hbs, List.length_append]; omega
    clear hall hbs
    by_cases hlt : k < l.length
    · obtain ⟨v, hv⟩ : ∃ v, l[k]? = some v := ⟨_, List.getElem?_eq_getElem hlt⟩
      obtain ⟨gb, go, rfl, hgb, q0, q1, q2⟩ := rd_val hl hv
      have r0 := (hnx.cell (p := ⟨gb, go + k * 3, none⟩) (by show gb < _; omega)).trans q0
      have r1 := (hnx.cell (p := ⟨gb, go + k * 3 + 1, none⟩) (by show gb < _; omega)).trans q1
      have r2 := (hnx.cell (p := ⟨gb, go + k * 3 + 2, none⟩) (by show gb < _; omega)).trans q2
      have hvo := hok v (List.mem_of_getElem? hv)
      have hfl := flat_take hv
      have hft := flat_le l (k + 1)
      rw [hfl, List.length_append] at hft
      have HFL := Lib.hid hfl
      have hle : bs.length + (kone v).length ≤ 4294967296 := by omega
      have HV := Lib.hid hv
      have hall2 : mayB v = true → ∀ x ∈ l.take (k + 1), mayB x = true := fun hm x hx => by
        rw [List.take_add_one, HV.out] at hx
        rcases List.mem_append.1 hx with h | h
        · exact HALL.out x h
        · simp at h; subst h; exact hm
      have hno : mayB v = false → kapp b l = ([], 1) := fun hm => by
        unfold kapp
        rw [if_neg]
        intro h
        rw [List.all_eq_true] at h
        have := h v (List.mem_of_getElem? HV.out)
        rw [hm] at this; cases this
      have HNO := Lib.hid hno
      have HA2 := Lib.hid hall2
      have M0 := fun w => may_any v hvo.1 w
      obtain ⟨mb, hmb⟩ : ∃ x, x = mayB v := ⟨_, rfl⟩
      rw [← hmb] at M0
      have HMB := Lib.hid hmb
      have HM := Lib.hid M0
      have HVO := Lib.hid hvo
      clear hno hall2 M0 hvo hmb hv hfl q0 q1 q2 hft
      obtain ⟨kd, n, t⟩ := v
      dsimp only at r0 r1 r2
      go_wp2_with fail
      refine (HM.out _).mono ?_; rintro e w2 ⟨rfl, bl2⟩
      have hz2 := bl2.size; simp at hz2
      have b2 : Below w.heap.size w w2 := (hnx.alloc hnx.size _).trans (bl2.mono (by have := hnx.size; simp; omega))
      have d0 : w2.cell? ⟨wr.heap.size, 0, none⟩ = some (.int .u8 (kd : Int)) := cell_be (by simp [go_sem]) bl2 (by simp)
      have d1 : w2.cell? ⟨wr.heap.size, 1, none⟩ = some (.int .i64 n) := cell_be (by simp [go_sem]) bl2 (by simp)
      have d2 : w2.cell? ⟨wr.heap.size, 2, none⟩ = some (txt t) := cell_be (by simp [go_sem]) bl2 (by simp)
      have hown2 := own_bel (hown.alloc _) bl2
      have hy : wr.heap.size < w2.heap.size := by omega
      clear r0 r1 r2
      cases mb
      case false =>
        have he := HNO.out HMB.out.symm
        have HE := Lib.hid he
        clear he
        go_wp2_with fail
        go_ret2
        exact retBE_err HE.out b2
      have hall3 := HA2.out HMB.out.symm
      have HALL3 := Lib.hid hall3
      have hmay := HMB.out.symm
      rw [mayB_cases] at hmay
      dsimp only at hmay
      clear hall3 HNO HA2 HALL HMB HM
      have HFL2 := HFL.out
      rcases (show kd = 0 ∨ kd = 1 ∨ kd = 2 ∨ kd = 3 by
        rcases Nat.lt_or_ge kd 4 with h | h
        · omega
        · rw [if_neg (by omega), if_neg (by omega), if_neg (by omega), if_neg (by omega)] at hmay; cases hmay) with rfl | rfl | rfl | rfl
      · clear hmay HFL2
        have hk1 : kone ⟨0, n, t⟩ = [1] := rfl
        rw [hk1] at hle
        simp only [List.length_cons, List.length_nil] at hle
        clear hk1
        go_wp2_with (at_builtin; refine wpList_app El_u8 rfl _ _ rfl (hown2.alloc _) rfl rfl (by exact rd_one _ _ _ _ _ rfl (Nat.lt_add_one _)) rfl one_int (by unfold maxLen; omega) (by omega) (by have := b2.size; simp; omega) ?_; intro v2 w3 hown3 hg3 _; have hb3 : Below w.heap.size w w3 := (b2.alloc b2.size _).trans (own_below (hown2.alloc _) hg3 (by have := b2.size; simp; omega)))
        go_roundw
        case rel =>
          refine ⟨k + 1, bs ++ [1], by omega, by go_num, HALL3.out, by rw [HFL.out, HBS.out, List.append_assoc]; rfl, ?_, hb3⟩
          simpa [cells, b8] using hown3
        case measure => simp [intOf]; omega
      · have hn : n = 0 ∨ n = 1 := by
          simp at hmay
          exact hmay.1
        clear hmay HFL2
        have hk1 : kone ⟨1, n, t⟩ = [2, n.toNat.toUInt8] := rfl
        rw [hk1] at hle
        simp only [List.length_cons, List.length_nil] at hle
        clear hk1
        rcases hn with rfl | rfl
        · go_wp2_with (at_builtin; refine wpList_app El_u8 rfl _ _ rfl (hown2.alloc _) rfl rfl (by exact rd_two _ _ _ _ _ _ rfl (Nat.lt_add_one _)) rfl (by intro u hu; simp at hu; rcases hu with rfl | rfl <;> rfl) (by unfold maxLen; omega) (by omega) (by have := b2.size; simp; omega) ?_; intro v2 w3 hown3 hg3 _; have hb3 : Below w.heap.size w w3 := (b2.alloc b2.size _).trans (own_below (hown2.alloc _) hg3 (by have := b2.size; simp; omega)))
          go_roundw
          case rel =>
            refine ⟨k + 1, bs ++ [2, 0], by omega, by go_num, HALL3.out, by rw [HFL.out, HBS.out, List.append_assoc]; rfl, ?_, hb3⟩
            simpa [cells, b8] using hown3
          case measure => simp [intOf]; omega
        · go_wp2_with (at_builtin; refine wpList_app El_u8 rfl _ _ rfl (hown2.alloc _) rfl rfl (by exact rd_two _ _ _ _ _ _ rfl (Nat.lt_add_one _)) rfl (by intro u hu; simp at hu; rcases hu with rfl | rfl <;> rfl) (by unfold maxLen; omega) (by omega) (by have := b2.size; simp; omega) ?_; intro v2 w3 hown3 hg3 _; have hb3 : Below w.heap.size w w3 := (b2.alloc b2.size _).trans (own_below (hown2.alloc _) hg3 (by have := b2.size; simp; omega)))
          go_roundw
          case rel =>
            refine ⟨k + 1, bs ++ [2, 1], by omega, by go_num, HALL3.out, by rw [HFL.out, HBS.out, List.append_assoc]; rfl, ?_, hb3⟩
            simpa [cells, b8] using hown3
          case measure => simp [intOf]; omega
      · clear hmay HFL2
        have hk1 : kone ⟨2, n, t⟩ = 3 :: be 8 (n + 9223372036854775808).toNat := rfl
        have hnb := HVO.out.2
        have hl8 : (be 8 (n + 9223372036854775808).toNat).length = 8 := rfl
        rw [hk1, List.length_cons, hl8] at hle
        obtain ⟨u, hu⟩ : ∃ u, u = (n + 9223372036854775808).toNat := ⟨_, rfl⟩
        rw [← hu] at hk1
        have hub : u < 18446744073709551616 := by unfold i64r at hnb; omega
        have HXOR : Hid (bits .xor .u64 (IntKind.u64.wrap n) 9223372036854775808 = (u : Int)) := Lib.hid (by rw [hu]; exact xor_i64 n hnb)
        have HK1 := Lib.hid hk1
        have hnb6 : (Value.slice A6 bs.length c6).ownBlock ≠ some wr.heap.size := own_nb hown (Nat.le_refl _)
        clear hk1 hu hl8 hnb
        go_wp2_with (at_builtin; refine wpList_app El_u8 rfl _ _ rfl (hown2.alloc _) rfl rfl (by exact rd_one _ _ _ _ _ rfl (Nat.lt_add_one _)) rfl one_int (by unfold maxLen; omega) (by omega) (by have := b2.size; simp; omega) ?_; intro v2 w3 hown3 hg3 ho3)
        have hb3 : Below w.heap.size w w3 := (b2.alloc b2.size _).trans (own_below (hown2.alloc _) hg3 (by have := b2.size; simp; omega))
        have d1' : w3.cell? ⟨wr.heap.size, 1, none⟩ = some (.int .i64 n) := app_cell hg3 hnb6 (cell_al d1 hy _)
        have hnb7 : v2.ownBlock ≠ some wr.heap.size := nb_app ho3 hnb6 (by simp; omega)
        have hz3 := hg3.size
        simp only [World.size_alloc] at hz3
        go_loopw [6, 9] (fun v6 v9 ws => ∃ (j : Nat) (z : Int) (d : List UInt8), j ≤ 8 ∧ v9 = .int .i64 z ∧ z + 8 = 8 * (j : Int) ∧ be 8 u = d ++ be j u ∧ d.length + j = 8 ∧ ws.ownsRow w.heap.size 5 1 v6 (bs.length + 1 + d.length) (cells (bs ++ 3 :: d)) ∧ v6.ownBlock ≠ some wr.heap.size ∧
            ws.cell? ⟨wr.heap.size, 1, none⟩ = some (.int .i64 n) ∧ wr.heap.size < ws.heap.size ∧ Below w.heap.size w ws) (fun _ v9 _ => (intOf v9 + 8).toNat)
        case atStart => exact ⟨8, 56, [], by omega, rfl, by omega, rfl, rfl, by simpa [cells, b8] using hown3, hnb7, d1', by omega, hb3⟩
        case round =>
          obtain ⟨j, z, d, hj, rfl, hzj, hbe, hdl, hownj, hnbj, hcj, hwj, hbj⟩ := hrel
          obtain ⟨A7, c7, rfl, hc7⟩ := own_form hownj
          have HBE := Lib.hid hbe
          clear hbe
          rcases Nat.eq_zero_or_pos j with h0 | h0
          · subst h0
            have hz8 : z = -8 := by omega
            subst hz8
            have hd8 : kone ⟨2, n, t⟩ = 3 :: d := by rw [HK1.out, HBE.out]; simp [be]
            have HD8 := Lib.hid hd8
            clear hd8
            go_wp2_with fail
            go_roundw
            case rel =>
              refine ⟨k + 1, bs ++ 3 :: d, by omega, by go_num, HALL3.out, by rw [HFL.out, HBS.out, List.append_assoc, HD8.out], ?_, hbj⟩
              have e : (bs ++ 3 :: d).length = bs.length + 1 + d.length := by simp; omega
              rw [e]; exact hownj
            case measure => simp [intOf]; omega
          · obtain ⟨i, rfl⟩ : ∃ i, j = i + 1 := ⟨j - 1, by omega⟩
            have hzi : z = 8 * (i : Int) := by omega
            subst hzi
            have hxo := HXOR.out
            have hby : (u : Int) / 2 ^ (8 * i) % 256 = ((u / 256 ^ i % 256 : Nat) : Int) := by
              have e : (2 : Int) ^ (8 * i) = ((256 ^ i : Nat) : Int) := by
                rw [show (256 : Nat) = 2 ^ 8 from rfl, ← Nat.pow_mul]; simp
              rw [e]; simp
            have HBY := Lib.hid hby
            clear hby
            go_wp2_with (at_builtin; refine wpList_app El_u8 rfl _ _ rfl (hownj.alloc _) rfl rfl (by exact rd_one _ _ _ _ _ rfl (Nat.lt_add_one _)) rfl one_int (by unfold maxLen; omega) (by omega) (by have := hbj.size; simp; omega) ?_; intro v4 w5 hown5 hg5 ho5)
            have hb5 : Below w.heap.size w w5 := (hbj.alloc hbj.size _).trans (own_below (hownj.alloc _) hg5 (by have := hbj.size; simp; omega))
            have hz5 := hg5.size
            simp only [World.size_alloc] at hz5
            go_roundw
            case rel =>
              refine ⟨i, 8 * (i : Int) - 8, d ++ [(u / 256 ^ i % 256).toUInt8], by omega, rfl, by omega, by rw [HBE.out]; simp [be], by simp; omega, ?_, nb_app ho5 hnbj (by simp; omega), app_cell hg5 hnbj (cell_al hcj hwj _), by omega, hb5⟩
              have e : bs ++ 3 :: (d ++ [(u / 256 ^ i % 256).toUInt8]) = (bs ++ 3 :: d) ++ [(u / 256 ^ i % 256).toUInt8] := by simp
              rw [e, cells_snoc _ (Nat.mod_lt _ (by omega)), ← HBY.out, List.length_append, List.length_singleton, ← Nat.add_assoc]
              exact hown5
            case measure => simp [intOf]; omega
      · clear hmay HFL2
        have hk1 : kone ⟨3, n, t⟩ = 4 :: (esc t ++ [0, 1]) := rfl
        rw [hk1] at hle
        simp only [List.length_cons, List.length_append, List.length_nil] at hle
        have HK1 := Lib.hid hk1
        have hnb6 : (Value.slice A6 bs.length c6).ownBlock ≠ some wr.heap.size := own_nb hown (Nat.le_refl _)
        clear hk1
        have htl := esc_le t
        go_wp2_with (at_builtin; refine wpList_app El_u8 rfl _ _ rfl (hown2.alloc _) rfl rfl (by exact rd_one _ _ _ _ _ rfl (Nat.lt_add_one _)) rfl one_int (by unfold maxLen; omega) (by omega) (by have := b2.size; simp; omega) ?_; intro v2 w3 hown3 hg3 ho3; have d2' : w3.cell? ⟨wr.heap.size, 2, none⟩ = some (txt t) := app_cell hg3 hnb6 (cell_al d2 hy _); obtain ⟨c30, o30, hcv, hrd30, _⟩ := conv_str w3 t)
        have hb3 : Below w.heap.size w w3 := (b2.alloc b2.size _).trans (own_below (hown2.alloc _) hg3 (by have := b2.size; simp; omega))
        have hsz3 := hb3.size
        clear hcv d2'
        have hrd31 : ∀ i x, t[i]? = some x → (w3.alloc o30).drew.cell? ⟨w3.heap.size, i, none⟩ = some (b8 x) := fun i x hx => by
          obtain ⟨bb, oo, hA, _, hcc⟩ := hrd30.at (k := i) (by simpa using (List.getElem?_eq_some_iff.1 hx).1)
          cases hA
          have := hcc i (b8 x) (by rw [List.getElem?_map, hx]; rfl)
          rw [Nat.zero_add] at this
          exact this
        have hnb3 : v2.ownBlock ≠ some w3.heap.size := own_nb hown3 (Nat.le_refl _)
        go_loopw [6, 32] (fun v6 v32 ws => ∃ (j : Nat) (d : List UInt8), j ≤ t.length ∧ v32 = .int .i64 j ∧ d = esc (t.take j) ∧ d.length ≤ (esc t).length ∧ ws.ownsRow w.heap.size 5 1 v6 (bs.length + 1 + d.length) (cells (bs ++ 4 :: d)) ∧ v6.ownBlock ≠ some w3.heap.size ∧
            (∀ i x, t[i]? = some x → ws.cell? ⟨w3.heap.size, i, none⟩ = some (b8 x)) ∧ w3.heap.size < ws.heap.size ∧ Below w.heap.size w ws) (fun _ v32 _ => t.length - (intOf v32).toNat)
        case atStart => exact ⟨0, [], by omega, rfl, rfl, by simp, by simpa [cells, b8] using ((hown3.alloc o30).drew), hnb3, hrd31, by simp, (hb3.alloc hsz3 _).drew⟩
        case round =>
          obtain ⟨j, d, hj, rfl, hd, hdl, hownj, hnbj, hcj, hwj, hbj⟩ := hrel
          obtain ⟨A7, c7, rfl, hc7⟩ := own_form hownj
          have HD := Lib.hid hd
          have HCJ := Lib.hid hcj
          clear hd hcj
          by_cases hjt : j < t.length
          · obtain ⟨x, hx⟩ : ∃ x, t[j]? = some x := ⟨_, List.getElem?_eq_getElem hjt⟩
            have hcx := HCJ.out j x hx
            have hst : esc (t.take (j + 1)) = d ++ (if x = 0 then [0, 255] else [x]) := by
              rw [List.take_add_one, hx, esc_append, HD.out]
              simp only [Option.toList_some, esc]
            have hle2 := esc_take_le t (j + 1)
            rw [hst, List.length_append] at hle2
            have HST := Lib.hid hst
            have hjI : (j : Int) < (t.length : Int) := by omega
            clear hst hx
            by_cases hx0 : x = 0
            · subst hx0
              rw [if_pos rfl] at hle2
              simp only [List.length_cons, List.length_nil] at hle2
              have hcx0 : Hid True := trivial
              rw [show b8 0 = .int .u8 0 from rfl] at hcx
              go_wp2_with (first
                | (at_builtin; refine wpList_app El_u8 rfl _ _ rfl (hown5.alloc _) rfl rfl (by exact rd_one _ _ _ _ _ rfl (Nat.lt_add_one _)) rfl one_int (by unfold maxLen; omega) (by omega) (by have := hb5.size; simp; omega) ?_; intro v8 w8 hown8 hg8 ho8)
                | (at_builtin; refine wpList_app El_u8 rfl _ _ rfl (hownj.alloc _) rfl rfl (by exact rd_one _ _ _ _ _ rfl (Nat.lt_add_one _)) rfl one_int (by unfold maxLen; omega) (by omega) (by have := hbj.size; simp; omega) ?_; intro v4 w5 hown5 hg5 ho5; have hb5 : Below w.heap.size w w5 := (hbj.alloc hbj.size _).trans (own_below (hownj.alloc _) hg5 (by have := hbj.size; simp; omega)); have hz5 := hg5.size; simp only [World.size_alloc] at hz5; have hnb5 := nb_app ho5 hnbj (by simp; omega); obtain ⟨A8, c8, rfl, hc8⟩ := own_form hown5))
              have hb8 : Below w.heap.size w w8 := (hb5.alloc hb5.size _).trans (own_below (hown5.alloc _) hg8 (by have := hb5.size; simp; omega))
              have hz8 := hg8.size
              simp only [World.size_alloc] at hz8
              have hw5 : w3.heap.size < w5.heap.size := by omega
              go_roundw
              case rel =>
                refine ⟨j + 1, d ++ [0, 255], by omega, by go_num, by rw [HST.out, if_pos rfl], by simp; omega, ?_, nb_app ho8 hnb5 (by simp; omega), fun i y hy => app_cell hg8 hnb5 (cell_al (app_cell hg5 hnbj (cell_al (HCJ.out i y hy) hwj _)) hw5 _), by omega, hb8⟩
                have e : bs ++ 4 :: (d ++ [0, 255]) = (bs ++ 4 :: d) ++ [0, 255] := by simp
                have e2 : bs.length + 1 + (d ++ [0, 255]).length = bs.length + 1 + d.length + 1 + 1 := by simp; omega
                rw [e, e2, cells_append]
                simpa [cells, b8] using hown8
              case measure => simp [intOf]; omega
            · rw [if_neg hx0] at hle2
              simp only [List.length_cons, List.length_nil] at hle2
              have hxn : ((x.toNat : Int) == 0) = false := by
                simp only [beq_eq_false_iff_ne, ne_eq]
                intro e
                exact hx0 (UInt8.toNat_inj.1 (by show x.toNat = 0; omega))
              go_wp2_with (at_builtin; refine wpList_app El_u8 rfl _ _ rfl (hownj.alloc _) rfl rfl (by exact rd_one _ _ _ _ _ rfl (Nat.lt_add_one _)) rfl one_int (by unfold maxLen; omega) (by omega) (by have := hbj.size; simp; omega) ?_; intro v4 w5 hown5 hg5 ho5)
              have hb5 : Below w.heap.size w w5 := (hbj.alloc hbj.size _).trans (own_below (hownj.alloc _) hg5 (by have := hbj.size; simp; omega))
              have hz5 := hg5.size
              simp only [World.size_alloc] at hz5
              go_roundw
              case rel =>
                refine ⟨j + 1, d ++ [x], by omega, by go_num, by rw [HST.out, if_neg hx0], by simp; omega, ?_, nb_app ho5 hnbj (by simp; omega), fun i y hy => app_cell hg5 hnbj (cell_al (HCJ.out i y hy) hwj _), by omega, hb5⟩
                have e : bs ++ 4 :: (d ++ [x]) = (bs ++ 4 :: d) ++ [x] := by simp
                rw [e, cells_append, List.length_append, List.length_singleton, ← Nat.add_assoc]
                exact hown5
              case measure => simp [intOf]; omega
          · have hjt' : j = t.length := by omega
            have hde : d = esc t := by rw [HD.out, hjt', List.take_length]
            have HDE := Lib.hid hde
            subst hjt'
            clear hde HD
            go_wp2_with (at_builtin; refine wpList_app El_u8 rfl _ _ rfl (hownj.alloc _) rfl rfl (by exact rd_two _ _ _ _ _ _ rfl (Nat.lt_add_one _)) rfl (by intro u hu; simp at hu; rcases hu with rfl | rfl <;> rfl) (by unfold maxLen; omega) (by omega) (by have := hbj.size; simp; omega) ?_; intro v4 w5 hown5 hg5 ho5)
            have hb5 : Below w.heap.size w w5 := (hbj.alloc hbj.size _).trans (own_below (hownj.alloc _) hg5 (by have := hbj.size; simp; omega))
            go_roundw
            case rel =>
              refine ⟨k + 1, bs ++ 4 :: (d ++ [0, 1]), by omega, by go_num, HALL3.out, by rw [HFL.out, HBS.out, List.append_assoc, HK1.out, HDE.out], ?_, hb5⟩
              have e : bs ++ 4 :: (d ++ [0, 1]) = (bs ++ 4 :: d) ++ [0, 1] := by simp
              have e2 : ((bs ++ 4 :: d) ++ [0, 1]).length = bs.length + 1 + d.length + 2 := by simp; omega
              rw [e, e2, cells_append]
              exact hown5
            case measure => simp [intOf]; omega
    · have hkk : k = l.length := by omega
      have he : kapp b l = (bs, 0) := by
        unfold kapp
        have h1 := HALL.out
        rw [hkk, List.take_length] at h1
        rw [if_pos (List.all_eq_true.2 h1), HBS.out, hkk, List.take_length]
      have HE := Lib.hid he
      subst hkk
      clear he
      go_wp2_with fail
      go_ret2
      exact retBE_ok HE.out hown hnx
end Go.Proofs.Ythkpgjcnnfdibaa

/-! Tools that walks of later layers share: slices of bytes cut, blocks of three cells, tables of functions, results of values, the reference's May and Same. No condition. -/
namespace Go.Proofs.Ythkpgjcnnfdibaa
open Go.RowKit Go.Maps
set_option linter.unusedVariables false
set_option linter.unusedSimpArgs false

abbrev nullA : Value := .agg #[.int .u8 0, .int .i64 0, .string ⟨#[]⟩]
/-- 'b[u:]' of bytes that are read. -/
theorem from_any {w : World} {B : Nat} {A : Option Addr} {l : List UInt8} (c u : Nat) (hu : u ≤ l.length) (hc : l.length ≤ c) (hr : Rd w B A (cells l)) :
    ∃ A' c', (∀ w' (z : Int), z = u → (Instr.sliceAt 22 (.slice A l.length c) (some (.int .i64 z)) none none).run Try.prog w' = .ok (.slice A' (l.drop u).length c') w') ∧ Rd w B A' (cells (l.drop u)) ∧ (l.drop u).length ≤ c' := by
  refine ⟨_, _, fun w' z hz => by rw [hz, run_from A l.length c u hu w', List.length_drop], ?_, by rw [List.length_drop]; omega⟩
  have h1 := hr.cut u (c = u) (fun e => by simp; omega)
  unfold cells at *
  rw [List.map_drop]; exact h1
/-- what a reader's first and next bytes are -/
theorem rd_head {w : World} {B : Nat} {A : Option Addr} {d : UInt8} {r : List UInt8} (h : Rd w B A (cells (d :: r))) : ∃ b o, A = some ⟨b, o, none⟩ ∧ b < B ∧ w.cell? ⟨b, o, none⟩ = some (b8 d) := by
  obtain ⟨b, o, hA, hb, hc⟩ := h.at (k := 0) (by simp)
  exact ⟨b, o, hA, hb, by have := hc 0 (b8 d) rfl; rwa [Nat.add_zero] at this⟩
/-- A block of three cells: what they hold, that they may be written, what the block is behind a store. -/
theorem three_cells {w : World} {k : Nat} {v0 v1 v2 : Value} {t : TypeId} (h : w.heap[k]? = some (.cells #[v0, v1, v2] t (0, 0))) : w.cell? ⟨k, 0, none⟩ = some v0 ∧ w.cell? ⟨k, 1, none⟩ = some v1 ∧ w.cell? ⟨k, 2, none⟩ = some v2 := by
  refine ⟨?_, ?_, ?_⟩ <;> simp [World.cell?, h]
theorem three_free {w : World} {k : Nat} {v0 v1 v2 : Value} {t : TypeId} (h : w.heap[k]? = some (.cells #[v0, v1, v2] t (0, 0))) : w.frozen? ⟨k, 0, none⟩ = false ∧ w.frozen? ⟨k, 1, none⟩ = false ∧ w.frozen? ⟨k, 2, none⟩ = false := by
  refine ⟨?_, ?_, ?_⟩ <;> simp [World.frozen?, h]
theorem three_set0 {w : World} {k : Nat} {v0 v1 v2 : Value} {t : TypeId} (h : w.heap[k]? = some (.cells #[v0, v1, v2] t (0, 0))) (x : Value) :
    (w.setCell ⟨k, 0, none⟩ x).heap[k]? = some (.cells #[x, v1, v2] t (0, 0)) := by
  have hlt := lt_of_block h
  have h' : w.heap[k] = .cells #[v0, v1, v2] t (0, 0) := by simpa [Array.getElem?_eq_getElem hlt] using h
  show (w.heap.modify k _)[k]? = _
  rw [Array.getElem?_eq_getElem (by simpa using hlt), Array.getElem_modify_self, h']
  rfl
theorem three_set1 {w : World} {k : Nat} {v0 v1 v2 : Value} {t : TypeId} (h : w.heap[k]? = some (.cells #[v0, v1, v2] t (0, 0))) (x : Value) :
    (w.setCell ⟨k, 1, none⟩ x).heap[k]? = some (.cells #[v0, x, v2] t (0, 0)) := by
  have hlt := lt_of_block h
  have h' : w.heap[k] = .cells #[v0, v1, v2] t (0, 0) := by simpa [Array.getElem?_eq_getElem hlt] using h
  show (w.heap.modify k _)[k]? = _
  rw [Array.getElem?_eq_getElem (by simpa using hlt), Array.getElem_modify_self, h']
  rfl
theorem three_set2 {w : World} {k : Nat} {v0 v1 v2 : Value} {t : TypeId} (h : w.heap[k]? = some (.cells #[v0, v1, v2] t (0, 0))) (x : Value) :
    (w.setCell ⟨k, 2, none⟩ x).heap[k]? = some (.cells #[v0, v1, x] t (0, 0)) := by
  have hlt := lt_of_block h
  have h' : w.heap[k] = .cells #[v0, v1, v2] t (0, 0) := by simpa [Array.getElem?_eq_getElem hlt] using h
  show (w.heap.modify k _)[k]? = _
  rw [Array.getElem?_eq_getElem (by simpa using hlt), Array.getElem_modify_self, h']
  rfl
theorem three_set {w : World} {k : Nat} {v0 v1 v2 : Value} {t : TypeId} (h : w.heap[k]? = some (.cells #[v0, v1, v2] t (0, 0))) (x0 x1 x2 : Value) :
    (((w.setCell ⟨k, 0, none⟩ x0).setCell ⟨k, 1, none⟩ x1).setCell ⟨k, 2, none⟩ x2).heap[k]? = some (.cells #[x0, x1, x2] t (0, 0)) :=
  three_set2 (three_set1 (three_set0 h x0) x1) x2
theorem grown_block {w w' : World} {r : Option Nat} {k : Nat} {o : Obj} (hg : w.grownBy w' r) (hk : w.heap[k]? = some o) (hr : r ≠ some k) : w'.heap[k]? = some o :=
  (hg.block k (Array.getElem?_eq_some_iff.1 hk).1 (fun e => hr e.symm)).trans hk
theorem three_below {w wr : World} {B k : Nat} (h : Below B w wr) (hk : B ≤ k) (x0 x1 x2 : Value) : Below B w (((wr.setCell ⟨k, 0, none⟩ x0).setCell ⟨k, 1, none⟩ x1).setCell ⟨k, 2, none⟩ x2) :=
  ((h.setCell (p := ⟨k, 0, none⟩) hk x0).setCell (p := ⟨k, 1, none⟩) hk x1).setCell (p := ⟨k, 2, none⟩) hk x2
abbrev tk (n : Int) : Lit := .int .u8 n
theorem law8 : Keyed Try.prog 5 := int_keyed Try.underlying5
theorem key8 (c : UInt8) : keyOf Try.prog 5 (b8 c) = some (tk (c.toNat : Int)) := keyOf_int_mk Try.underlying5 (by
  have := c.toNat_lt
  simp [Lit.wf, IntKind.min, IntKind.max, IntKind.signed, IntKind.bits]; omega)
/-- a map literal's entry -/
theorem wpList_insert_own {H : Type} {P : Program} (w : World) {ops : Array Oper} {rest : List Oper} {o : Oper} {a : Act} {Q : Exit → Act → World → Prop}
    (hg : o.guard = none) (m x v : Operand) (t : TypeId) (hop : o.op = Op.insert t m x v)
    (k e : TypeId) (K : Keyed P k) (ht : P.underlying t = some (.map k e)) (R : Value → Option (DataW H × List MemPlace)) (b n : Nat) (D : DataW H)
    (hm : a.eval m = .map (some b)) (hown : w.ownsMap P k R b n D) (hn : n < maxLen) (key val : Value) (kl : Lit) (hx : a.eval x = key) (hv : a.eval v = val) (hkey : keyOf P k key = some kl)
    (d : DataW H) (ps : List MemPlace) (hval : R val = some (d, ps))
    (hK : ∀ w', w'.ownsMap P k R b (n + 1) (D.put kl d) → w.grownBy w' (some b) → wpList P ops Q rest (a.put o.dst undef) w') :
    wpList P ops Q (o :: rest) a w := by
  refine wpList_plain hg fun K' hK' => ?_
  obtain ⟨w', hrun, r1, r2⟩ := hown.update K ht hn hkey hval
  unfold Oper.wp
  simp [execOp, hop, hm, hx, hv, hrun, Result.andThen]
  exact hK' _ _ (hK w' r1 r2)
/-- What a call that answers values and an error leaves. -/
def RetVE (w : World) (x : List V × Nat) (e : Ending) (w' : World) : Prop :=
  ∃ A c, e = .returned (.tuple #[.slice A x.1.length c, .int .i64 (x.2 : Int)]) ∧ w'.ownsRow w.heap.size 46 3 (.slice A x.1.length c) x.1.length (vcells x.1) ∧ Below w.heap.size w w'
theorem retVE_err {w w' : World} {r : List V × Nat} {x : Nat} (h : r = ([], x)) (hb : Below w.heap.size w w') : RetVE w r (.returned (.tuple #[.slice none 0 0, .int .i64 (x : Int)])) w' := by
  subst h
  exact ⟨none, 0, rfl, World.ownsRow_nil _ _ _ _, hb⟩
theorem retVE_ok {w w' : World} {r : List V × Nat} {l : List V} {v : Value} (h : r = (l, 0)) (ho : w'.ownsRow w.heap.size 46 3 v l.length (vcells l)) (hb : Below w.heap.size w w') : RetVE w r (.returned (.tuple #[v, .int .i64 0])) w' := by
  subst h
  obtain ⟨A, c, rfl, _⟩ := own_form ho
  exact ⟨A, c, rfl, ho, hb⟩
theorem lt_of_map {H : Type} {P : Program} {k : TypeId} {R : Value → Option (DataW H × List MemPlace)} {w : World} {b n : Nat} {D : DataW H} (h : w.ownsMap P k R b n D) : b < w.heap.size := by
  obtain ⟨es, clock, h1, _⟩ := h
  exact (Array.getElem?_eq_some_iff.1 h1).1
theorem map_bel {H : Type} {P : Program} {k : TypeId} {R : Value → Option (DataW H × List MemPlace)} {w w' : World} {b n B : Nat} {D : DataW H} (h : w.ownsMap P k R b n D) (hb : Below B w w') (hB : b < B) : w'.ownsMap P k R b n D := by
  obtain ⟨es, clock, h1, rest⟩ := h
  exact ⟨es, clock, (hb.block b hB).trans h1, rest⟩
theorem cv_three {w : World} {T : TypeId} {k : Nat} (v : V) (hk : k = w.heap.size) : Rd (w.alloc (.cells #[.int .u8 (v.k : Int), .int .i64 v.n, txt v.t] T)) (k + 1) (some ⟨k, 0, none⟩) (cv v) :=
  rd_arr w (cv v) T k (k + 1) hk (by omega)
theorem txt_inj {a b : List UInt8} : txt a = txt b ↔ a = b := by
  constructor
  · intro h; simp at h; exact h
  · rintro rfl; rfl
/-- how a region spells 'x != y' of two values -/
theorem neq_val (x y : V) (w : World) : (if (x.k : Int) = (y.k : Int) then if x.n = y.n then if x.t = y.t then (Result.ok (Next.value (.bool false)) w : Result Next) else Result.ok (Next.value (.bool true)) w else Result.ok (Next.value (.bool true)) w else Result.ok (Next.value (.bool true)) w)
    = Result.ok (Next.value (.bool (!decide (x = y)))) w := by
  obtain ⟨a, b, c⟩ := x
  obtain ⟨a', b', c'⟩ := y
  dsimp only
  by_cases h1 : a = a'
  · by_cases h2 : b = b'
    · by_cases h3 : c = c'
      · subst h1 h2 h3; simp
      · simp [h1, h2, h3]
    · simp [h2]
  · have : ¬ (a : Int) = (a' : Int) := by omega
    simp [h1, this]
theorem take_more {α : Type} {l m : List α} {k : Nat} {x y : α} (h : l.take k = m.take k) (hx : l[k]? = some x) (hy : m[k]? = some y) (hxy : x = y) : l.take (k + 1) = m.take (k + 1) := by
  rw [List.take_add_one, List.take_add_one, hx, hy, h, hxy]
set_option maxRecDepth 100000 in
theorem Same_any (B : Nat) (A A' : Option Addr) (c c' : Nat) (l m : List V) (w : World) (hl : Rd w B A (vcells l)) (hm : Rd w B A' (vcells m)) (hB : B ≤ w.heap.size) (hll : l.length ≤ maxLen) :
    Calls Try.prog 23 #[.slice A l.length c, .slice A' m.length c'] w fun e w' => e = .returned (.bool (decide (l = m))) ∧ Below w.heap.size w w' := by
  by_cases hlm : l.length = m.length
  case neg =>
    have he : decide (l = m) = false := by
      simp only [decide_eq_false_iff_not]; rintro rfl; exact hlm rfl
    have HE := Lib.hid he
    have hI : ((l.length : Int) != (m.length : Int)) = true := by simp; omega
    clear he hlm
    go_enter Try.func23, Try.ntmps23
    go_wp2
    go_ret
    exact ⟨by rw [HE.out]; rfl, by go_grown⟩
  have HLM := Lib.hid hlm
  obtain ⟨n, hn⟩ : ∃ n, n = l.length := ⟨_, rfl⟩
  have hn2 : m.length = n := by omega
  rw [← hn, hn2]
  have HN := Lib.hid hn
  have HN2 := Lib.hid hn2
  rw [← hn] at hll
  clear hlm hn hn2
  unfold maxLen at hll
  go_enter Try.func23, Try.ntmps23
  go_wp2
  go_loopw [5] (fun v5 wr => ∃ k : Nat, k ≤ n ∧ v5 = .int .i64 k ∧ l.take k = m.take k ∧ Below w.heap.size w wr) (fun v5 _ => n - (intOf v5).toNat)
  case atStart => exact ⟨0, by omega, rfl, rfl, Below.refl _ _⟩
  case round =>
    obtain ⟨k, hk, rfl, htk, hbel⟩ := hrel
    have HTK := Lib.hid htk
    clear htk
    by_cases hlt : k < n
    · have hn1 := HN.out
      have hn2 := HN2.out
      obtain ⟨x, hx⟩ : ∃ v, l[k]? = some v := ⟨_, List.getElem?_eq_getElem (by omega)⟩
      obtain ⟨y, hy⟩ : ∃ v, m[k]? = some v := ⟨_, List.getElem?_eq_getElem (by omega)⟩
      obtain ⟨gb, go, rfl, hgb, q0, q1, q2⟩ := rd_val hl hx
      obtain ⟨hb, ho, rfl, hhb, p0, p1, p2⟩ := rd_val hm hy
      have F1 : ∀ w', Below w.heap.size w w' → w'.cell? ⟨gb, go + k * 3, none⟩ = some (.int .u8 (x.k : Int)) ∧ w'.cell? ⟨gb, go + k * 3 + 1, none⟩ = some (.int .i64 x.n) ∧ w'.cell? ⟨gb, go + k * 3 + 2, none⟩ = some (txt x.t) := fun w' hb => ⟨(hb.cell (p := ⟨gb, go + k * 3, none⟩) (by show gb < _; omega)).trans q0, (hb.cell (p := ⟨gb, go + k * 3 + 1, none⟩) (by show gb < _; omega)).trans q1, (hb.cell (p := ⟨gb, go + k * 3 + 2, none⟩) (by show gb < _; omega)).trans q2⟩
      have F2 : ∀ w', Below w.heap.size w w' → w'.cell? ⟨hb, ho + k * 3, none⟩ = some (.int .u8 (y.k : Int)) ∧ w'.cell? ⟨hb, ho + k * 3 + 1, none⟩ = some (.int .i64 y.n) ∧ w'.cell? ⟨hb, ho + k * 3 + 2, none⟩ = some (txt y.t) := fun w' hbw => ⟨(hbw.cell (p := ⟨hb, ho + k * 3, none⟩) (by show hb < _; omega)).trans p0, (hbw.cell (p := ⟨hb, ho + k * 3 + 1, none⟩) (by show hb < _; omega)).trans p1, (hbw.cell (p := ⟨hb, ho + k * 3 + 2, none⟩) (by show hb < _; omega)).trans p2⟩
      have hkI : (k : Int) < (n : Int) := by omega
      clear q0 q1 q2 p0 p1 p2 hn1 hn2
      have HX := Lib.hid hx
      have HY := Lib.hid hy
      clear hx hy
      go_wp2_with fail
      refine ah_start 9 (fun w' => Below w.heap.size w w') rfl (by kernel_rfl) hbel.drew ?_ ; intro hS
      (refine mv_val 0 (v := ?_) rfl (by kernel_rfl) (by kernel_rfl) (by kernel_rfl) (fun _ _ _ h => h) (by rfl) hS ?_ ?_; rotate_left; (focus (intro w hSw; (try dsimp only at hSw); (have f1 := (F1 w hSw).1; have f2 := (F1 w hSw).2.1; have f3 := (F1 w hSw).2.2; have f4 := (F2 w hSw).1; have f5 := (F2 w hSw).2.1; have f6 := (F2 w hSw).2.2; have f7 := hlt; have f8 := neq_val x y w); go_simp; first | done | with_reducible rfl)); simp only [Act.put, List.setIfInBounds_toArray, List.set_cons_zero, List.set_cons_succ])
      (refine mv_val 1 (v := ?_) rfl (by kernel_rfl) (by kernel_rfl) (by kernel_rfl) (fun _ _ _ h => h) (by rfl) hS ?_ ?_; rotate_left; (focus (intro w hSw; (try dsimp only at hSw); (have f1 := (F1 w hSw).1; have f2 := (F1 w hSw).2.1; have f3 := (F1 w hSw).2.2; have f4 := (F2 w hSw).1; have f5 := (F2 w hSw).2.1; have f6 := (F2 w hSw).2.2; have f7 := hlt; have f8 := neq_val x y w); go_simp; first | done | with_reducible rfl)); simp only [Act.put, List.setIfInBounds_toArray, List.set_cons_zero, List.set_cons_succ])
      (refine mv_val 2 (v := ?_) rfl (by kernel_rfl) (by kernel_rfl) (by kernel_rfl) (fun _ _ _ h => h) (by rfl) hS ?_ ?_; rotate_left; (focus (intro w hSw; (try dsimp only at hSw); (have f1 := (F1 w hSw).1; have f2 := (F1 w hSw).2.1; have f3 := (F1 w hSw).2.2; have f4 := (F2 w hSw).1; have f5 := (F2 w hSw).2.1; have f6 := (F2 w hSw).2.2; have f7 := hlt; have f8 := neq_val x y w); go_simp; first | done | with_reducible rfl)); simp only [Act.put, List.setIfInBounds_toArray, List.set_cons_zero, List.set_cons_succ])
      (refine mv_val 3 (v := ?_) rfl (by kernel_rfl) (by kernel_rfl) (by kernel_rfl) (fun _ _ _ h => h) (by rfl) hS ?_ ?_; rotate_left; (focus (intro w hSw; (try dsimp only at hSw); (have f1 := (F1 w hSw).1; have f2 := (F1 w hSw).2.1; have f3 := (F1 w hSw).2.2; have f4 := (F2 w hSw).1; have f5 := (F2 w hSw).2.1; have f6 := (F2 w hSw).2.2; have f7 := hlt; have f8 := neq_val x y w); go_simp; first | done | with_reducible rfl)); simp only [Act.put, List.setIfInBounds_toArray, List.set_cons_zero, List.set_cons_succ])
      (refine mv_val 4 (v := ?_) rfl (by kernel_rfl) (by kernel_rfl) (by kernel_rfl) (fun _ _ _ h => h) (by rfl) hS ?_ ?_; rotate_left; (focus (intro w hSw; (try dsimp only at hSw); (have f1 := (F1 w hSw).1; have f2 := (F1 w hSw).2.1; have f3 := (F1 w hSw).2.2; have f4 := (F2 w hSw).1; have f5 := (F2 w hSw).2.1; have f6 := (F2 w hSw).2.2; have f7 := hlt; have f8 := neq_val x y w); go_simp; first | done | with_reducible rfl)); simp only [Act.put, List.setIfInBounds_toArray, List.set_cons_zero, List.set_cons_succ])
      (refine mv_val 5 (v := ?_) rfl (by kernel_rfl) (by kernel_rfl) (by kernel_rfl) (fun _ _ _ h => h) (by rfl) hS ?_ ?_; rotate_left; (focus (intro w hSw; (try dsimp only at hSw); (have f1 := (F1 w hSw).1; have f2 := (F1 w hSw).2.1; have f3 := (F1 w hSw).2.2; have f4 := (F2 w hSw).1; have f5 := (F2 w hSw).2.1; have f6 := (F2 w hSw).2.2; have f7 := hlt; have f8 := neq_val x y w); go_simp; first | done | with_reducible rfl)); simp only [Act.put, List.setIfInBounds_toArray, List.set_cons_zero, List.set_cons_succ])
      (refine mv_val 6 (v := ?_) rfl (by kernel_rfl) (by kernel_rfl) (by kernel_rfl) (fun _ _ _ h => h) (by rfl) hS ?_ ?_; rotate_left; (focus (intro w hSw; (try dsimp only at hSw); (have f1 := (F1 w hSw).1; have f2 := (F1 w hSw).2.1; have f3 := (F1 w hSw).2.2; have f4 := (F2 w hSw).1; have f5 := (F2 w hSw).2.1; have f6 := (F2 w hSw).2.2; have f7 := hlt; have f8 := neq_val x y w); go_simp; first | done | with_reducible rfl)); simp only [Act.put, List.setIfInBounds_toArray, List.set_cons_zero, List.set_cons_succ])
      (refine mv_val 7 (v := ?_) rfl (by kernel_rfl) (by kernel_rfl) (by kernel_rfl) (fun _ _ _ h => h) (by rfl) hS ?_ ?_; rotate_left; (focus (intro w hSw; (try dsimp only at hSw); (have f1 := (F1 w hSw).1; have f2 := (F1 w hSw).2.1; have f3 := (F1 w hSw).2.2; have f4 := (F2 w hSw).1; have f5 := (F2 w hSw).2.1; have f6 := (F2 w hSw).2.2; have f7 := hlt; have f8 := neq_val x y w); go_simp; first | done | with_reducible rfl)); simp only [Act.put, List.setIfInBounds_toArray, List.set_cons_zero, List.set_cons_succ])
      (refine mv_val 8 (v := ?_) rfl (by kernel_rfl) (by kernel_rfl) (by kernel_rfl) (fun _ _ _ h => h) (by rfl) hS ?_ ?_; rotate_left; (focus (intro w hSw; (try dsimp only at hSw); (have f1 := (F1 w hSw).1; have f2 := (F1 w hSw).2.1; have f3 := (F1 w hSw).2.2; have f4 := (F2 w hSw).1; have f5 := (F2 w hSw).2.1; have f6 := (F2 w hSw).2.2; have f7 := hlt; have f8 := neq_val x y w); go_simp; first | done | with_reducible rfl)); simp only [Act.put, List.setIfInBounds_toArray, List.set_cons_zero, List.set_cons_succ])
      refine wpAnyH_done (by kernel_rfl) ?_ _
      by_cases hxy : x = y
      · have hq : (!decide (x = y)) = false := by simp [hxy]
        have HT2 := Lib.hid (take_more HTK.out HX.out HY.out hxy)
        rw [hq]
        clear hq hxy
        go_wp2_with fail
        go_roundw
        case rel => exact ⟨k + 1, by omega, by go_num, HT2.out, hS⟩
        case measure => simp [intOf]; omega
      · have hq : (!decide (x = y)) = true := by simp [hxy]
        have he : decide (l = m) = false := by
          simp only [decide_eq_false_iff_not]
          rintro rfl
          exact hxy (Option.some.inj (HX.out.symm.trans HY.out))
        have HE := Lib.hid he
        rw [hq]
        clear hq hxy he
        go_wp2_with fail
        go_ret
        exact ⟨by rw [HE.out]; rfl, hS⟩
    · have hkn : k = n := by omega
      have he : decide (l = m) = true := by
        have h := HTK.out
        rw [hkn, List.take_of_length_le (by rw [← HN.out]; omega), List.take_of_length_le (by rw [HN2.out]; omega)] at h
        simp [h]
      have HE := Lib.hid he
      subst hkn
      clear he
      go_wp2_with fail
      go_ret
      exact ⟨by rw [HE.out]; rfl, hbel⟩
set_option maxRecDepth 100000 in
theorem May_any (v : V) (hk : v.k < 256) (w : World) :
    Calls Try.prog 56 #[va v] w fun e w' => e = .returned (.bool (mayB v)) ∧ Below w.heap.size w w' := by
  obtain ⟨k, n, t⟩ := v
  rw [mayB_cases]
  dsimp only at hk ⊢
  rcases (by omega : k = 0 ∨ k = 1 ∨ k = 2 ∨ k = 3 ∨ 3 < k) with rfl | rfl | rfl | rfl | h3
  case inr.inr.inr.inr =>
    rw [if_neg (by omega), if_neg (by omega), if_neg (by omega), if_neg (by omega)]
    have h3I : (3 : Int) < (k : Int) := by omega
    clear hk h3
    go_enter Try.func56, Try.ntmps56
    go_wp2
    go_ret
    exact ⟨rfl, by go_grown⟩
  all_goals
    go_enter Try.func56, Try.ntmps56
    go_wp2
  all_goals go_ret
  all_goals refine ⟨?_, by go_grown⟩
  all_goals (first | (simp; done) | (simp_all [isEmpty_dec]; done) | (by_cases hn1 : n = 1 <;> cases t <;> simp_all; done))
theorem lit0_u8 (w : World) : (w.alloc (.cells #[] 5)).ownsRow w.heap.size 5 1 (.slice (some ⟨w.heap.size, 0, none⟩) 0 0) 0 [] := World.ownsRow_lit w #[] 0 (Nat.le_refl _) (by unfold maxLen; omega) rfl
theorem lit0_val (w : World) : (w.alloc (.cells #[] 46)).ownsRow w.heap.size 46 3 (.slice (some ⟨w.heap.size, 0, none⟩) 0 0) 0 [] := World.ownsRow_lit w #[] 0 (Nat.le_refl _) (by unfold maxLen; omega) rfl
theorem vok2 {l : List V} (h : ∀ v ∈ l, vok v) : ∀ v ∈ l, v.k < 256 ∧ i64r v.n := fun v hv => ⟨(h v hv).1, (h v hv).2.1⟩
end Go.Proofs.Ythkpgjcnnfdibaa

/-! Plain functions of layer 4: bits as bytes, a row's bytes, how they are read. No program in sight. -/
namespace Go.Proofs.Ythkpgjcnnfdibaa
open Go.RowKit
set_option linter.unusedVariables false

/-! ### bits as bytes -/
def bw (b : Bool) (n : Nat) : Nat := if b then n else 0
/-- byte j of the bits p -/
def byteP (p : Nat → Bool) (j : Nat) : Nat :=
  bw (p (8 * j)) 1 + bw (p (8 * j + 1)) 2 + bw (p (8 * j + 2)) 4 + bw (p (8 * j + 3)) 8 + bw (p (8 * j + 4)) 16 + bw (p (8 * j + 5)) 32 + bw (p (8 * j + 6)) 64 + bw (p (8 * j + 7)) 128
/-- m bytes of the bits p -/
def layP (m : Nat) (p : Nat → Bool) : List UInt8 := (List.range m).map fun j => (byteP p j).toUInt8
theorem layP_length (m : Nat) (p : Nat → Bool) : (layP m p).length = m := by simp [layP]
theorem bw_le (b : Bool) (n : Nat) : bw b n ≤ n := by unfold bw; split <;> omega
theorem byteP_lt (p : Nat → Bool) (j : Nat) : byteP p j < 256 := by
  unfold byteP
  have h0 := bw_le (p (8 * j)) 1
  have h1 := bw_le (p (8 * j + 1)) 2
  have h2 := bw_le (p (8 * j + 2)) 4
  have h3 := bw_le (p (8 * j + 3)) 8
  have h4 := bw_le (p (8 * j + 4)) 16
  have h5 := bw_le (p (8 * j + 5)) 32
  have h6 := bw_le (p (8 * j + 6)) 64
  have h7 := bw_le (p (8 * j + 7)) 128
  omega
theorem layP_get {m j : Nat} (p : Nat → Bool) (h : j < m) : (layP m p)[j]? = some (byteP p j).toUInt8 := by
  simp [layP, List.getElem?_map, List.getElem?_range h]
theorem byteP_congr {p q : Nat → Bool} {j : Nat} (h : ∀ r, r < 8 → p (8 * j + r) = q (8 * j + r)) : byteP p j = byteP q j := by
  unfold byteP
  rw [show p (8 * j) = q (8 * j) from h 0 (by omega), h 1 (by omega), h 2 (by omega), h 3 (by omega), h 4 (by omega), h 5 (by omega), h 6 (by omega), h 7 (by omega)]
theorem layP_congr {m : Nat} {p q : Nat → Bool} (h : ∀ i, i < 8 * m → p i = q i) : layP m p = layP m q := by
  unfold layP
  refine List.map_congr_left fun j hj => ?_
  rw [List.mem_range] at hj
  rw [byteP_congr fun r hr => h (8 * j + r) (by omega)]
/-- bit i of bytes -/
def bitAt (b : List UInt8) (i : Nat) : Bool := decide ((b[i / 8]?.getD 0).toNat / 2 ^ (i % 8) % 2 = 1)
def byte8 (b0 b1 b2 b3 b4 b5 b6 b7 : Bool) : Nat := bw b0 1 + bw b1 2 + bw b2 4 + bw b3 8 + bw b4 16 + bw b5 32 + bw b6 64 + bw b7 128
theorem byte8_bits : ∀ b0 b1 b2 b3 b4 b5 b6 b7 : Bool, let x := byte8 b0 b1 b2 b3 b4 b5 b6 b7
    (decide (x / 1 % 2 = 1) = b0 ∧ decide (x / 2 % 2 = 1) = b1 ∧ decide (x / 4 % 2 = 1) = b2 ∧ decide (x / 8 % 2 = 1) = b3 ∧ decide (x / 16 % 2 = 1) = b4 ∧ decide (x / 32 % 2 = 1) = b5 ∧ decide (x / 64 % 2 = 1) = b6 ∧ decide (x / 128 % 2 = 1) = b7) := by decide +kernel
theorem byte8_or : ∀ b0 b1 b2 b3 b4 b5 b6 b7 : Bool, let x := byte8 b0 b1 b2 b3 b4 b5 b6 b7
    ((x ||| 1) = byte8 true b1 b2 b3 b4 b5 b6 b7 ∧ (x ||| 2) = byte8 b0 true b2 b3 b4 b5 b6 b7 ∧ (x ||| 4) = byte8 b0 b1 true b3 b4 b5 b6 b7 ∧ (x ||| 8) = byte8 b0 b1 b2 true b4 b5 b6 b7 ∧
     (x ||| 16) = byte8 b0 b1 b2 b3 true b5 b6 b7 ∧ (x ||| 32) = byte8 b0 b1 b2 b3 b4 true b6 b7 ∧ (x ||| 64) = byte8 b0 b1 b2 b3 b4 b5 true b7 ∧ (x ||| 128) = byte8 b0 b1 b2 b3 b4 b5 b6 true) := by decide +kernel
theorem byteP_8 (p : Nat → Bool) (j : Nat) : byteP p j = byte8 (p (8 * j)) (p (8 * j + 1)) (p (8 * j + 2)) (p (8 * j + 3)) (p (8 * j + 4)) (p (8 * j + 5)) (p (8 * j + 6)) (p (8 * j + 7)) := rfl
theorem byteP_bit (p : Nat → Bool) (j r : Nat) (hr : r < 8) : decide (byteP p j / 2 ^ r % 2 = 1) = p (8 * j + r) := by
  rw [byteP_8]
  obtain ⟨h0, h1, h2, h3, h4, h5, h6, h7⟩ := byte8_bits (p (8 * j)) (p (8 * j + 1)) (p (8 * j + 2)) (p (8 * j + 3)) (p (8 * j + 4)) (p (8 * j + 5)) (p (8 * j + 6)) (p (8 * j + 7))
  rcases (by omega : r = 0 ∨ r = 1 ∨ r = 2 ∨ r = 3 ∨ r = 4 ∨ r = 5 ∨ r = 6 ∨ r = 7) with rfl | rfl | rfl | rfl | rfl | rfl | rfl | rfl
  · exact h0
  · exact h1
  · exact h2
  · exact h3
  · exact h4
  · exact h5
  · exact h6
  · exact h7
theorem byteP_or (p : Nat → Bool) (j r : Nat) (hr : r < 8) : byteP p j ||| 2 ^ r = byteP (fun i => p i || decide (i = 8 * j + r)) j := by
  rw [byteP_8, byteP_8]
  obtain ⟨h0, h1, h2, h3, h4, h5, h6, h7⟩ := byte8_or (p (8 * j)) (p (8 * j + 1)) (p (8 * j + 2)) (p (8 * j + 3)) (p (8 * j + 4)) (p (8 * j + 5)) (p (8 * j + 6)) (p (8 * j + 7))
  have e : ∀ a, (8 * j + a = 8 * j) ↔ a = 0 := fun a => by omega
  have e' : ∀ a, (8 * j = 8 * j + a) ↔ a = 0 := fun a => by omega
  rcases (by omega : r = 0 ∨ r = 1 ∨ r = 2 ∨ r = 3 ∨ r = 4 ∨ r = 5 ∨ r = 6 ∨ r = 7) with rfl | rfl | rfl | rfl | rfl | rfl | rfl | rfl
  · refine h0.trans ?_; simp
  · refine h1.trans ?_; simp
  · refine h2.trans ?_; simp
  · refine h3.trans ?_; simp
  · refine h4.trans ?_; simp
  · refine h5.trans ?_; simp
  · refine h6.trans ?_; simp
  · refine h7.trans ?_; simp
theorem byteP_add (p : Nat → Bool) (j r : Nat) (hr : r < 8) (hp : p (8 * j + r) = false) : byteP p j + 2 ^ r = byteP (fun i => p i || decide (i = 8 * j + r)) j := by
  rcases (by omega : r = 0 ∨ r = 1 ∨ r = 2 ∨ r = 3 ∨ r = 4 ∨ r = 5 ∨ r = 6 ∨ r = 7) with rfl | rfl | rfl | rfl | rfl | rfl | rfl | rfl <;>
    (simp only [byteP, Nat.add_zero] at *; rw [hp]; simp [bw]; try omega)
theorem layP_bit (m : Nat) (p : Nat → Bool) (i : Nat) (h : i < 8 * m) : bitAt (layP m p) i = p i := by
  unfold bitAt
  rw [layP_get p (show i / 8 < m by omega), Option.getD_some, show ((byteP p (i / 8)).toUInt8).toNat = byteP p (i / 8) from toNat_toUInt8 (byteP_lt _ _), byteP_bit p _ _ (Nat.mod_lt _ (by omega))]
  congr 1; omega
/-- bit k set -/
theorem layP_set (m k : Nat) (p : Nat → Bool) (hk : k < 8 * m) : (layP m p).set (k / 8) (byteP p (k / 8) ||| 2 ^ (k % 8)).toUInt8 = layP m (fun i => p i || decide (i = k)) := by
  apply List.ext_getElem?
  intro j
  rcases Nat.lt_or_ge j m with hj | hj
  · rw [layP_get _ hj, List.getElem?_set]
    by_cases h : k / 8 = j
    · subst h
      rw [if_pos rfl, if_pos (by rw [layP_length]; exact hj), byteP_or p _ _ (Nat.mod_lt _ (by omega))]
      rw [show 8 * (k / 8) + k % 8 = k by omega]
    · rw [if_neg h, layP_get _ hj]
      congr 2
      refine byteP_congr fun r hr => ?_
      have : ¬ (8 * j + r = k) := by omega
      simp [this]
  · rw [List.getElem?_eq_none (by simp [layP_length]; exact hj), List.getElem?_eq_none (by rw [layP_length]; exact hj)]

/-! ### a row's bytes -/
def tyok (t : UInt8) : Bool := decide (t.toNat = 1) || decide (t.toNat = 2) || decide (t.toNat = 3)
def knownT (T : List UInt8) : Bool := T.all tyok
/-- is a value one of a type, or Null? -/
def rmay (t : UInt8) (v : V) : Bool := mayB v && (decide (v.k = 0) || decide (v.k = t.toNat))
def mays : List UInt8 → List V → Bool
  | t :: T, v :: l => rmay t v && mays T l
  | _, _ => true
/-- a value's bytes -/
def vone (v : V) : List UInt8 :=
  if v.k = 1 then [v.n.toNat.toUInt8]
  else if v.k = 2 then vput (zig v.n).toNat
  else if v.k = 3 then vput v.t.length ++ v.t
  else []
abbrev isNull (v : V) : Bool := decide (v.k = 0)
/-- null at i? -/
def nullAt (l : List V) (i : Nat) : Bool := match l[i]? with | some v => isNull v | none => false
def size8 (n : Nat) : Nat := (n + 7) / 8
def rbytes (l : List V) : List UInt8 := layP (size8 l.length) (nullAt l) ++ l.flatMap vone
def rowok (T : List UInt8) (l : List V) : Bool := decide (l.length = T.length) && mays T l
def rput (T : List UInt8) (l : List V) : List UInt8 × Nat := if knownT T && rowok T l then (rbytes l, 0) else ([], 1)

/-! ### reading -/
/-- a value of type t that bytes begin with, how many bytes, the error -/
def vread (t : UInt8) (b : List UInt8) : V × Nat × Nat :=
  if t.toNat = 1 then
    match b with
    | [] => (null, 0, 20)
    | c :: _ => if 1 < c.toNat then (null, 0, 21) else (⟨1, c.toNat, []⟩, 1, 0)
  else if (vget b).2.2 ≠ 0 then (null, 0, (vget b).2.2)
  else if t.toNat = 2 then (⟨2, zag (vget b).1, []⟩, (vget b).2.1, 0)
  else if b.length - (vget b).2.1 < (vget b).1 then (null, 0, 20)
  else (⟨3, 0, (b.drop (vget b).2.1).take (vget b).1⟩, (vget b).2.1 + (vget b).1, 0)
/-- values i and on, of types T -/
def rvals (b : List UInt8) : Nat → List UInt8 → List V → List UInt8 → List V × Nat
  | _, [], acc, rest => if rest = [] then (acc, 0) else ([], 21)
  | i, t :: T, acc, rest =>
    if bitAt b i then rvals b (i + 1) T (acc ++ [null]) rest
    else if (vread t rest).2.2 ≠ 0 then ([], (vread t rest).2.2)
    else rvals b (i + 1) T (acc ++ [(vread t rest).1]) (rest.drop (vread t rest).2.1)
/-- is a bit set, of i and on, below m? -/
def anyBit (b : List UInt8) (i m : Nat) : Bool := (List.range' i (m - i)).any (bitAt b)
def rget (T : List UInt8) (b : List UInt8) : List V × Nat :=
  if knownT T = false then ([], 1)
  else if b.length < size8 T.length then ([], 20)
  else if anyBit b T.length (8 * size8 T.length) then ([], 21)
  else rvals b 0 T [] (b.drop (size8 T.length))
end Go.Proofs.Ythkpgjcnnfdibaa

/-! Plain laws of layer 4 that the walks of Put and Get want: the bytes as they grow value by value. No program in sight. -/
namespace Go.Proofs.Ythkpgjcnnfdibaa
open Go.RowKit
set_option linter.unusedVariables false

/-- the bytes behind k values -/
def bsAt (l : List V) (k : Nat) : List UInt8 := layP (size8 l.length) (fun i => decide (i < k) && nullAt l i) ++ (l.take k).flatMap vone
theorem size8_le (n : Nat) : n ≤ 8 * size8 n := by unfold size8; omega
theorem layP_false (m : Nat) : layP m (fun _ => false) = List.replicate m 0 := by
  unfold layP
  rw [show (fun j => (byteP (fun _ => false) j).toUInt8) = fun _ => (0 : UInt8) from by funext j; simp [byteP, bw], List.map_const', List.length_range]
theorem bsAt_0 (l : List V) : bsAt l 0 = List.replicate (size8 l.length) 0 := by
  unfold bsAt
  simp [layP_false]
theorem nullAt_of {l : List V} {k : Nat} {v : V} (h : l[k]? = some v) : nullAt l k = isNull v := by unfold nullAt; rw [h]
theorem flat_more {l : List V} {k : Nat} {v : V} (h : l[k]? = some v) : (l.take (k + 1)).flatMap vone = (l.take k).flatMap vone ++ vone v := by
  rw [List.take_add_one, h]; simp
theorem bsAt_len (l : List V) (k : Nat) : (bsAt l k).length = size8 l.length + ((l.take k).flatMap vone).length := by unfold bsAt; rw [List.length_append, layP_length]
theorem vone_null {v : V} (h : v.k = 0) : vone v = [] := by unfold vone; simp [h]
theorem bsAt_val {l : List V} {k : Nat} {v : V} (h : l[k]? = some v) (h0 : v.k ≠ 0) : bsAt l (k + 1) = bsAt l k ++ vone v := by
  unfold bsAt
  rw [flat_more h, List.append_assoc]
  congr 1
  refine layP_congr fun i _ => ?_
  by_cases hik : i = k
  · subst hik; rw [nullAt_of h]; simp [isNull, h0]
  · congr 1
    exact decide_eq_decide.2 (by omega)
/-- the byte in which bit k lies -/
def byAt (l : List V) (k : Nat) : Nat := byteP (fun i => decide (i < k) && nullAt l i) (k / 8)
theorem byAt_lt (l : List V) (k : Nat) : byAt l k < 256 := byteP_lt _ _
theorem bsAt_get {l : List V} {k : Nat} (h : k < l.length) : (bsAt l k)[k / 8]? = some (byAt l k).toUInt8 := by
  have := size8_le l.length
  unfold bsAt
  rw [List.getElem?_append_left (by rw [layP_length]; omega), layP_get _ (by omega)]
  rfl
theorem bsAt_null {l : List V} {k : Nat} {v : V} (h : l[k]? = some v) (h0 : v.k = 0) : bsAt l (k + 1) = (bsAt l k).set (k / 8) (byAt l k ||| 2 ^ (k % 8)).toUInt8 := by
  have hk : k < l.length := (List.getElem?_eq_some_iff.1 h).1
  have h8 := size8_le l.length
  unfold bsAt byAt
  rw [flat_more h, vone_null h0, List.append_nil, List.set_append_left _ _ (by rw [layP_length]; omega), layP_set _ _ _ (by omega)]
  congr 1
  refine layP_congr fun i _ => ?_
  by_cases hik : i = k
  · subst hik; rw [nullAt_of h]; simp [isNull, h0]
  · have e : decide (i < k + 1) = decide (i < k) := decide_eq_decide.2 (by omega)
    simp [e, hik]
theorem bsAt_end (l : List V) : bsAt l l.length = rbytes l := by
  unfold bsAt rbytes
  rw [List.take_length]
  congr 1
  refine layP_congr fun i _ => ?_
  by_cases hi : i < l.length
  · simp [hi]
  · have : nullAt l i = false := by unfold nullAt; rw [List.getElem?_eq_none (by omega)]
    simp [this]
theorem vone_le {v : V} (hn : i64r v.n) (ht : v.t.length < 18446744073709551616) : (vone v).length ≤ 10 + v.t.length := by
  have hz := zig_bd v.n hn.1 hn.2
  have h1 := vput_length64 (show (zig v.n).toNat < 18446744073709551616 by omega)
  have h2 := vput_length64 ht
  unfold vone
  split
  · simp; omega
  split
  · omega
  split
  · rw [List.length_append]; omega
  · simp
theorem flatv_le (l : List V) (k : Nat) : ((l.take k).flatMap vone).length ≤ (l.flatMap vone).length := by
  conv => rhs; rw [← List.take_append_drop k l]
  rw [List.flatMap_append, List.length_append]; omega
theorem flatv_bound (M : Nat) : ∀ (l : List V), (∀ v ∈ l, i64r v.n ∧ v.t.length ≤ M) → M < 18446744073709551616 → (l.flatMap vone).length ≤ l.length * (10 + M)
  | [], _, _ => by simp
  | v :: l, h, hM => by
    have h2 := h v (by simp)
    have h1 := vone_le h2.1 (by omega)
    have h3 := flatv_bound M l (fun u hu => h u (by simp [hu])) hM
    simp only [List.flatMap_cons, List.length_append, List.length_cons, Nat.add_mul, Nat.one_mul]
    omega
end Go.Proofs.Ythkpgjcnnfdibaa

/-! Tools that walks of later layers share (out of layer 4's texts): append of a string, tables of pairs of functions, bits of bytes in memory, slices cut, values stored. No condition but sizes. -/
namespace Go.Proofs.Ythkpgjcnnfdibaa
open Go.RowKit Go.Maps
set_option linter.unusedVariables false
set_option linter.unusedSimpArgs false

theorem all_more {α : Type} {p : α → Bool} {l : List α} {k : Nat} {x : α} (h : ∀ y ∈ l.take k, p y = true) (hx : l[k]? = some x) (hp : p x = true) : ∀ y ∈ l.take (k + 1), p y = true := by
  intro y hy
  rw [List.take_add_one, hx] at hy
  rcases List.mem_append.1 hy with h1 | h1
  · exact h y h1
  · simp at h1; subst h1; exact hp
theorem all_no {α : Type} {p : α → Bool} {l : List α} {k : Nat} {x : α} (hx : l[k]? = some x) (hp : p x = false) : l.all p = false := by
  rw [List.all_eq_false]
  exact ⟨x, List.mem_of_getElem? hx, by simp [hp]⟩
theorem all_yes {α : Type} {p : α → Bool} {l : List α} (h : ∀ y ∈ l.take l.length, p y = true) : l.all p = true := by
  rw [List.take_length] at h
  rw [List.all_eq_true]; exact h
theorem esc_le3 : ∀ t : List UInt8, (esc t).length ≤ 2 * t.length
  | [] => by simp [esc]
  | c :: t => by
    have := esc_le3 t
    simp only [esc]; split <;> simp <;> omega
theorem be_len3 : ∀ k u, (be k u).length = k
  | 0, _ => rfl
  | k + 1, u => by simp [be, be_len3 k u]
theorem kone_le3 (v : V) : (kone v).length ≤ 9 + 2 * v.t.length := by
  unfold kone
  have := esc_le3 v.t
  split
  · simp; omega
  split
  · simp; omega
  split
  · simp [be_len3]
  · simp; omega
theorem strCells_eq (t : List UInt8) : Lib.strCells ⟨t.toArray⟩ = cells t := by simp [Lib.strCells, cells]
theorem run_app_str (w : World) (ty : TypeId) {base : Nat} {v : Value} {n : Nat} {xs : List Value} (hown : w.ownsRow base 5 1 v n xs) (t : List UInt8) (h63 : n + t.length ≤ 4611686018427) (hbase : base ≤ w.heap.size) :
    ∃ v' w', (Builtin.append_ #[22, 9] ty #[v, .string ⟨t.toArray⟩]).run Try.prog w = .ok v' w' ∧ w'.ownsRow base 5 1 v' (n + t.length) (xs ++ cells t) ∧ w.grownBy w' v.ownBlock := by
  obtain ⟨i0, hi, hz0, hz1, hz2⟩ := info_parts Try.infoU8
  have hsz : (⟨t.toArray⟩ : ByteArray).size = t.length := by simp [ByteArray.size]
  obtain ⟨v', w', hrun, h2, h3, _⟩ := Lib.run_append_own_string (P := Try.prog) w base 22 9 ty 5 i0 Try.underlying22 Try.underlying9 hi hz0 hz1 hz2 v n xs hown ⟨t.toArray⟩ (by rw [hsz]; unfold maxLen; omega) (by rw [hsz]; omega) hbase
  rw [hsz, strCells_eq] at h2
  exact ⟨v', w', hrun, h2, h3⟩
theorem wp_app_str {w : World} {o : Oper} {a : Act} {k : Act → World → Prop} {Q : Exit → Act → World → Prop} (s x : Operand)
    (ho : o.op = .call { callee := .builtin .append, args := #[s, x], argTypes := #[22, 9] })
    {base : Nat} {v : Value} {n : Nat} {xs : List Value} (hown : w.ownsRow base 5 1 v n xs) (hs : a.eval s = v) {t : List UInt8} (hx : a.eval x = txt t) (h63 : n + t.length ≤ 4611686018427) (hbase : base ≤ w.heap.size)
    (h : ∀ v' w', w'.ownsRow base 5 1 v' (n + t.length) (xs ++ cells t) → w.grownBy w' v.ownBlock → k (a.put o.dst v') w') : o.wp Try.prog a w k Q := by
  obtain ⟨v', w', hrun, h2, h3⟩ := run_app_str w o.type hown t h63 hbase
  unfold Oper.wp execOp
  simp only [ho, resolve, invoke, builtin, Sem.run_bind, Sem.run_pure, Result.andThen_ok, List.map_toArray, List.map_cons, List.map_nil, hs, hx, hrun]
  exact h v' w' h2 h3
theorem wpList_app_str {w : World} {ops : Array Oper} {rest : List Oper} {o : Oper} {a : Act} {Q : Exit → Act → World → Prop} (hgd : o.guard = none) (s x : Operand)
    (ho : o.op = .call { callee := .builtin .append, args := #[s, x], argTypes := #[22, 9] })
    {base : Nat} {v : Value} {n : Nat} {xs : List Value} (hown : w.ownsRow base 5 1 v n xs) (hs : a.eval s = v) {t : List UInt8} (hx : a.eval x = txt t) (h63 : n + t.length ≤ 4611686018427) (hbase : base ≤ w.heap.size)
    (h : ∀ v' w', w'.ownsRow base 5 1 v' (n + t.length) (xs ++ cells t) → w.grownBy w' v.ownBlock → wpList Try.prog ops Q rest (a.put o.dst v') w') : wpList Try.prog ops Q (o :: rest) a w :=
  wpList_plain hgd fun _ hK => wp_app_str s x ho hown hs hx h63 hbase fun v' w' h2 h3 => hK _ _ (h v' w' h2 h3)
def fnD : Value → Option (DataW Unit)
  | .func (.func n) a b => if a = #[] ∧ b = #[] then some (.lit (.int .i64 n)) else none
  | .nilFunc => some (.lit (.int .i64 (-1)))
  | _ => none
theorem fnD_inv {v : Value} {n : Nat} (h : fnD v = some (.lit (.int .i64 n))) : v = .func (.func n) #[] #[] := by
  unfold fnD at h
  split at h
  · rename_i m a b
    split at h
    · rename_i hc
      obtain ⟨rfl, rfl⟩ := hc
      simp at h
      have hmn : m = n := Int.ofNat.inj h
      rw [hmn]
    · cases h
  · simp at h
  · cases h
def wayE : Value → Option (DataW Unit × List MemPlace)
  | .agg ⟨[a, b]⟩ => match fnD a, fnD b with
    | some x, some y => some (.agg [x, y], [])
    | _, _ => none
  | _ => none
abbrev wd (m n : Nat) : DataW Unit := .agg [.lit (.int .i64 m), .lit (.int .i64 n)]
abbrev wv (m n : Nat) : Value := .agg #[.func (.func m) #[] #[], .func (.func n) #[] #[]]
theorem wayE_inv {v : Value} {m n : Nat} {ps : List MemPlace} (h : wayE v = some (wd m n, ps)) : v = wv m n := by
  unfold wayE at h
  split at h
  · rename_i a b
    split at h
    · rename_i x y hx hy
      simp only [Option.some.injEq, Prod.mk.injEq, DataW.agg.injEq, List.cons.injEq, and_true] at h
      obtain ⟨⟨rfl, rfl⟩, _⟩ := h
      rw [fnD_inv hx, fnD_inv hy]
    · cases h
  · cases h
abbrev zway : DataW Unit := .agg [.lit (.int .i64 (-1)), .lit (.int .i64 (-1))]
/-- 'm[k]' where what the table holds is known -/
theorem wpList_lookup_tab {H : Type} {P : Program} (w : World) {ops : Array Oper} {rest : List Oper} {o : Oper} {a : Act} {Q : Exit → Act → World → Prop} (hg : o.guard = none) (m x : Operand) (t : TypeId) (hop : o.op = Op.lookup t m x false)
    (k e : TypeId) (K : Keyed P k) (ht : P.underlying t = some (.map k e)) (R : Value → Option (DataW H × List MemPlace)) {z : Value} (hz : (zeroValue e).run P w = .ok z w) (zd : DataW H) (zp : List MemPlace) (hzd : R z = some (zd, zp)) (b n : Nat) (D : DataW H)
    (hm : a.eval m = .map (some b)) (hown : w.ownsMap P k R b n D) (key : Value) (kl : Lit) (hx : a.eval x = key) (hkey : keyOf P k key = some kl) (val : Value) (hval : ∀ v ps, R v = some (D.atKey kl zd, ps) → v = val)
    (hK : wpList P ops Q rest (a.put o.dst val) w) : wpList P ops Q (o :: rest) a w := by
  refine wpList_plain hg fun K' hK' => ?_
  obtain ⟨v, ps, hrun, hv⟩ := hown.lookup K ht hz hzd hkey
  obtain rfl := hval v ps hv
  unfold Oper.wp
  simp [execOp, hop, hm, hx, hrun, Result.andThen]
  exact hK' _ _ hK
theorem own_ne_map {H : Type} {P : Program} {k : TypeId} {R : Value → Option (DataW H × List MemPlace)} {w : World} {b m base n sz : Nat} {e : TypeId} {D : DataW H} {v : Value} {xs : List Value} (h : w.ownsRow base e sz v n xs) (hm : w.ownsMap P k R b m D) : v.ownBlock ≠ some b := by
  obtain ⟨es, clock, h1, _⟩ := hm
  rcases h.2 with ⟨rfl, _⟩ | ⟨g, cap, cur, rfl, _, hg, _⟩
  · simp [Value.ownBlock]
  · simp only [Value.ownBlock, ne_eq, Option.some.injEq]
    rintro rfl
    rw [h1] at hg; cases hg
theorem own_lower {w : World} {base B n sz : Nat} {e : TypeId} {v : Value} {xs : List Value} (h : w.ownsRow B e sz v n xs) (hB : base ≤ B) : w.ownsRow base e sz v n xs := by
  obtain ⟨h1, h2⟩ := h
  refine ⟨h1, ?_⟩
  rcases h2 with h2 | ⟨g, cap, cur, hv, hb, rest⟩
  · exact .inl h2
  · exact .inr ⟨g, cap, cur, hv, by omega, rest⟩
theorem cv_block (w : World) (k n x : Value) (T : TypeId) : (w.alloc (.cells #[k, n, x] T)).cell? ⟨w.heap.size, 0, none⟩ = some k ∧ (w.alloc (.cells #[k, n, x] T)).cell? ⟨w.heap.size, 1, none⟩ = some n ∧ (w.alloc (.cells #[k, n, x] T)).cell? ⟨w.heap.size, 2, none⟩ = some x := by
  refine ⟨?_, ?_, ?_⟩ <;> simp [go_sem]

/-- 'b[u:v]' of bytes that are read. -/
theorem mid_any {w : World} {B : Nat} {A : Option Addr} {l : List UInt8} (c u v : Nat) (huv : u ≤ v) (hv : v ≤ l.length) (hc : l.length ≤ c) (hr : Rd w B A (cells l)) :
    ∃ A' c', (∀ w' (y z : Int), y = u → z = v → (Instr.sliceAt 22 (.slice A l.length c) (some (.int .i64 y)) (some (.int .i64 z)) none).run Try.prog w' = .ok (.slice A' ((l.drop u).take (v - u)).length c') w') ∧ Rd w B A' (cells ((l.drop u).take (v - u))) ∧ ((l.drop u).take (v - u)).length ≤ c' := by
  obtain ⟨i0, hi, hz0, hz1, hz2⟩ := info_parts Try.infoU8
  have hlen : ((l.drop u).take (v - u)).length = v - u := by rw [List.length_take, List.length_drop]; omega
  refine ⟨if c = u then A else A.map (·.add u), c - u, fun w' y z hy hz => ?_, ?_, by rw [hlen]; omega⟩
  · subst hy hz
    rw [hlen]
    simp [Instr.sliceAt, Instr.slice, run_underlying Try.underlying22, Instr.sliceBounds, run_sliceBound, sizeOf, typeInfo, hi, hz1, (by omega : (0 : Int) ≤ (u : Int)), (by omega : (0 : Int) ≤ (v : Int)), (by omega : (u : Int) ≤ (v : Int)), (by omega : (v : Int) ≤ (c : Int)), (by omega : (u : Int) ≤ (c : Int))]
  · have h1 := (hr.cut u (c = u) (fun e => by simp; omega)).take (v - u)
    unfold cells at *
    rw [List.map_take, List.map_drop]; exact h1

theorem key8N (k : Nat) (h : k < 256) : keyOf Try.prog 5 (.int .u8 (k : Int)) = some (tk (k : Int)) := keyOf_int_mk Try.underlying5 (by
  simp [Lit.wf, IntKind.min, IntKind.max, IntKind.signed, IntKind.bits]; omega)
theorem mayB_k {v : V} (h : mayB v = true) : (v.k = 0 ∧ v = null) ∨ (v.k = 1 ∧ (v.n = 0 ∨ v.n = 1) ∧ v.t = []) ∨ (v.k = 2 ∧ v.t = []) ∨ (v.k = 3 ∧ v.n = 0) := by
  obtain ⟨k, n, t⟩ := v
  rw [mayB_cases] at h
  dsimp only at h ⊢
  by_cases h0 : k = 0
  · rw [if_pos h0] at h
    simp at h
    obtain ⟨rfl, rfl⟩ := h
    subst h0
    exact .inl ⟨rfl, rfl⟩
  rw [if_neg h0] at h
  by_cases h1 : k = 1
  · rw [if_pos h1] at h
    simp at h
    exact .inr (.inl ⟨h1, h.1, h.2⟩)
  rw [if_neg h1] at h
  by_cases h2 : k = 2
  · rw [if_pos h2] at h
    simp at h
    exact .inr (.inr (.inl ⟨h2, h⟩))
  rw [if_neg h2] at h
  by_cases h3 : k = 3
  · rw [if_pos h3] at h
    simp at h
    exact .inr (.inr (.inr ⟨h3, h⟩))
  rw [if_neg h3] at h
  cases h
theorem own_some {w : World} {base n : Nat} {v : Value} {l : List UInt8} (h : w.ownsRow base 5 1 v n (cells l)) (hn : 0 < n) : ∃ g cap, v = .slice (some ⟨g, 0, none⟩) n cap ∧ base ≤ g ∧ g < w.heap.size := by
  rcases h.2 with ⟨hv, hz⟩ | ⟨g, cap, cur, hv, hb, hh, _⟩
  · omega
  · exact ⟨g, cap, hv, hb, (Array.getElem?_eq_some_iff.1 hh).1⟩
theorem map_same {H : Type} {P : Program} {k : TypeId} {R : Value → Option (DataW H × List MemPlace)} {w w' : World} {b n : Nat} {D : DataW H} (h : w.ownsMap P k R b n D) (hb : w'.heap[b]? = w.heap[b]?) : w'.ownsMap P k R b n D := by
  obtain ⟨es, clock, h1, rest⟩ := h
  exact ⟨es, clock, hb.trans h1, rest⟩
theorem shl8 (r : Nat) (hr : r < 8) (w : World) : (Op.shift .shl .u8 1 .i64 (r : Int)).run Try.prog w = .ok (.int .u8 ((2 ^ r : Nat) : Int)) w := by
  rcases (by omega : r = 0 ∨ r = 1 ∨ r = 2 ∨ r = 3 ∨ r = 4 ∨ r = 5 ∨ r = 6 ∨ r = 7) with rfl | rfl | rfl | rfl | rfl | rfl | rfl | rfl <;> kernel_rfl
theorem or8 (x y : Nat) (hx : x < 256) (hy : y < 256) : bits .or .u8 (x : Int) (y : Int) = ((x ||| y : Nat) : Int) := by
  rw [u8_or _ _ (by omega) (by omega) (by omega) (by omega)]
  simp
theorem shr8 (x r : Nat) (hx : x < 256) (hr : r < 8) (w : World) : (Op.shift .shr .u8 (x : Int) .i64 (r : Int)).run Try.prog w = .ok (.int .u8 ((x / 2 ^ r : Nat) : Int)) w := by
  rcases (by omega : r = 0 ∨ r = 1 ∨ r = 2 ∨ r = 3 ∨ r = 4 ∨ r = 5 ∨ r = 6 ∨ r = 7) with rfl | rfl | rfl | rfl | rfl | rfl | rfl | rfl <;> (simp [go_sem]; try omega)
theorem and1 (y : Nat) (hy : y < 256) : bits .and .u8 (y : Int) 1 = ((y % 2 : Nat) : Int) := by
  rw [u8_and _ _ (by omega) (by omega) (by omega) (by omega)]
  have : (1 : Int).toNat = 1 := rfl
  rw [this, Int.toNat_natCast, nat_mask1]
theorem bitAt_of {b : List UInt8} {i : Nat} {x : UInt8} (h : b[i / 8]? = some x) : bitAt b i = decide (x.toNat / 2 ^ (i % 8) % 2 = 1) := by unfold bitAt; rw [h]; rfl
theorem bitAt_take {b : List UInt8} {i m : Nat} (h : i < 8 * m) : bitAt (b.take m) i = bitAt b i := by
  unfold bitAt
  rw [List.getElem?_take, if_pos (by omega)]
/-- 'b[:m]' of bytes that are read. -/
theorem upto_any {A : Option Addr} {n c : Nat} (m : Nat) (hm : m ≤ n) (hc : n ≤ c) (w' : World) (z : Int) (hz : z = m) :
    (Instr.sliceAt 22 (.slice A n c) none (some (.int .i64 z)) none).run Try.prog w' = .ok (.slice A m c) w' := by
  obtain ⟨i0, hi, hz0, hz1, hz2⟩ := info_parts Try.infoU8
  subst hz
  simp [Instr.sliceAt, Instr.slice, run_underlying Try.underlying22, Instr.sliceBounds, run_sliceBound, sizeOf, typeInfo, hi, hz1, (by omega : (0 : Int) ≤ (m : Int)), (by omega : (m : Int) ≤ (c : Int))]
  intro _
  cases A <;> simp [Addr.add]
theorem vcells_rep (v : V) (n : Nat) (cs : Array Value) (hcs : cs.toList = cv v) : (madeCells cs (n * 3)).toList = vcells (List.replicate n v) := by
  have h3 : cs.size = 3 := by rw [← Array.length_toList, hcs]; rfl
  apply List.ext_getElem?
  intro j
  rw [vcells_get, List.getElem?_replicate]
  by_cases hj : j < n * 3
  · rw [if_pos (by omega)]
    have hm : j % 3 < 3 := Nat.mod_lt _ (by omega)
    have hget : cs[j % 3]? = (cv v)[j % 3]? := by rw [← Array.getElem?_toList, hcs]
    simp only [madeCells, Array.toList_map, Array.toList_range, List.getElem?_map, h3]
    rw [List.getElem?_range hj]
    simp only [Option.map_some, Option.bind_some, ← hget]
    rw [Array.getElem?_eq_getElem (by omega)]
    simp [getElem!_pos, h3, hm]
  · rw [if_neg (by omega)]
    simp [madeCells, hj]
/-- a value stored in a slice of values of the call's own -/
theorem own_set3 {w : World} {base n cap g : Nat} {e : TypeId} {l : List V} (h : w.ownsRow base e 3 (.slice (some ⟨g, 0, none⟩) n cap) n (vcells l)) {i : Nat} (v : V) (hi : i < l.length) :
    (((w.setCell ⟨g, i * 3, none⟩ (.int .u8 (v.k : Int))).setCell ⟨g, i * 3 + 1, none⟩ (.int .i64 v.n)).setCell ⟨g, i * 3 + 2, none⟩ (txt v.t)).ownsRow base e 3 (.slice (some ⟨g, 0, none⟩) n cap) n (vcells (l.set i v)) := by
  have h3 := ((h.stored (i * 3) (.int .u8 (v.k : Int))).1.stored (i * 3 + 1) (.int .i64 v.n)).1.stored (i * 3 + 2) (txt v.t)
  have e : (((vcells l).set (i * 3) (.int .u8 (v.k : Int))).set (i * 3 + 1) (.int .i64 v.n)).set (i * 3 + 2) (txt v.t) = vcells (l.set i v) := by
    apply List.ext_getElem?
    intro j
    rw [vcells_get (l.set i v), List.getElem?_set (l := l)]
    have hl := vcells_length l
    rcases (by omega : j = i * 3 ∨ j = i * 3 + 1 ∨ j = i * 3 + 2 ∨ (i ≠ j / 3 ∧ j ≠ i * 3 ∧ j ≠ i * 3 + 1 ∧ j ≠ i * 3 + 2)) with rfl | rfl | rfl | ⟨h0, h1, h2, h3⟩
    · rw [if_pos (show i = i * 3 / 3 by omega), if_pos hi, show i * 3 % 3 = 0 by omega]
      rw [List.getElem?_set_ne (show i * 3 + 2 ≠ i * 3 by omega), List.getElem?_set_ne (show i * 3 + 1 ≠ i * 3 by omega), List.getElem?_set_self (by omega)]; rfl
    · rw [if_pos (show i = (i * 3 + 1) / 3 by omega), if_pos hi, show (i * 3 + 1) % 3 = 1 by omega]
      rw [List.getElem?_set_ne (show i * 3 + 2 ≠ i * 3 + 1 by omega), List.getElem?_set_self (by rw [List.length_set]; omega)]; rfl
    · rw [if_pos (show i = (i * 3 + 2) / 3 by omega), if_pos hi, show (i * 3 + 2) % 3 = 2 by omega]
      rw [List.getElem?_set_self (by rw [List.length_set, List.length_set]; omega)]; rfl
    · rw [if_neg h0, List.getElem?_set_ne (Ne.symm h3), List.getElem?_set_ne (Ne.symm h2), List.getElem?_set_ne (Ne.symm h1), vcells_get]
  rw [e] at h3
  exact h3.1
theorem own_box8 (w : World) (o : Obj) (x : Value) : ((w.alloc o).alloc (.cells #[x] 5)).ownsRow w.heap.size 5 1 (.slice (some ⟨w.heap.size + 1, 0, none⟩) 1 1) 1 [x] := by
  have h := World.ownsRow_lit (base := w.heap.size) (e := 5) (size := 1) (w.alloc o) #[x] 1 (by simp) (by unfold maxLen; omega) rfl
  rw [World.size_alloc] at h
  exact h
theorem add8 (x y : Nat) (h : x + y < 256) : IntKind.u8.wrap ((x : Int) + (y : Int)) = ((x + y : Nat) : Int) := by rw [IntKind.wrap_u8]; omega
theorem byte_eq (z : Int) (y : Nat) (hy : y < 256) (h : z = y) : Value.int .u8 z = b8 y.toUInt8 := by
  unfold b8; rw [toNat_toUInt8 hy, h]
theorem set_cells (bs : List UInt8) (j : Nat) (b : UInt8) : cells (bs.set j b) = (cells bs).set j (b8 b) := by unfold cells; rw [List.map_set]
theorem own_byte {w : World} {base g cap j y : Nat} {z : Int} {bs bs' : List UInt8} (h : w.ownsRow base 5 1 (.slice (some ⟨g, 0, none⟩) bs.length cap) bs.length (cells bs)) (hy : y < 256) (hz : z = y) (hb : bs' = bs.set j y.toUInt8) :
    (w.setCell ⟨g, j, none⟩ (.int .u8 z)).drew.ownsRow base 5 1 (.slice (some ⟨g, 0, none⟩) bs.length cap) bs'.length (cells bs') := by
  have h1 := (h.stored j (.int .u8 z)).1
  rw [hb, List.length_set, set_cells, ← byte_eq z y hy hz]
  exact h1
theorem z_eq (x r : Nat) (h : x + 2 ^ r < 256) : ((x : Int) + 2 ^ r % 256) % 256 = ((x + 2 ^ r : Nat) : Int) := by
  obtain ⟨q, hq⟩ : ∃ q, q = 2 ^ r := ⟨_, rfl⟩
  rw [show ((2 : Int) ^ r) = ((2 ^ r : Nat) : Int) by simp, ← hq]
  rw [← hq] at h
  omega
/-- what the walk wants of bit i of bytes in memory -/
theorem bit_facts {w : World} {B : Nat} {bb oo : Nat} {b : List UInt8} (hr : Rd w B (some ⟨bb, oo, none⟩) (cells b)) (i : Nat) (hi : i / 8 < b.length) :
    ∃ X : Nat, X < 256 ∧ w.cell? ⟨bb, oo + i / 8, none⟩ = some (.int .u8 (X : Int)) ∧ (((X : Int) / 2 ^ (i % 8)).tmod 2 == 1) = bitAt b i := by
  obtain ⟨b2, o2, h1, _, hc⟩ := rd_cell hr hi
  cases h1
  refine ⟨(b[i / 8]).toNat, (b[i / 8]).toNat_lt, hc _ hi, ?_⟩
  rw [bitAt_of (List.getElem?_eq_getElem hi)]
  obtain ⟨q, hq⟩ : ∃ q, q = (b[i / 8]).toNat / 2 ^ (i % 8) := ⟨_, rfl⟩
  rw [show (((b[i / 8]).toNat : Int) / 2 ^ (i % 8)) = (((b[i / 8]).toNat / 2 ^ (i % 8) : Nat) : Int) by simp, ← hq, Int.tmod_eq_emod_of_nonneg (by omega)]
  by_cases h : q % 2 = 1
  · have h2 : (q : Int) % 2 = 1 := by omega
    simp [h, h2]
  · have h2 : (q : Int) % 2 = 0 := by omega
    simp [h, h2]
/-- a constant's bytes as a slice: the block bears a mark behind its last cell -/
theorem rd_mark (W : World) (xs : List Value) (T : TypeId) (m : Nat × Nat) (b B : Nat) (hb : b = W.heap.size) (hB : b < B) : Rd (W.alloc (.cells xs.toArray T m)) B (some ⟨b, 0, none⟩) xs := by
  subst hb
  refine .inr ⟨_, _, rfl, hB, fun j u hu => ?_⟩
  have h1 : (W.alloc (.cells xs.toArray T m)).heap[W.heap.size]? = some (.cells xs.toArray T m) := heap_alloc_new W _
  simp only [World.cell?, h1, Nat.zero_add]
  simpa using hu
theorem conv_const (w : World) (C : Array Value) (n c : Nat) : (convert 22 22 (.slice (some ⟨w.heap.size, 0, none⟩) n c)).run Try.prog (w.alloc (.cells C 5)) = .ok (.slice (some ⟨w.heap.size, 0, none⟩) n c) (w.alloc (.cells C 5 (C.size, C.size + 1))) :=
  Lib.run_convert_bytes_const (P := Try.prog) w 22 5 C n c Try.underlying22 Try.underlying5
end Go.Proofs.Ythkpgjcnnfdibaa

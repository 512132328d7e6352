/- Joined texts: see the remark ahead of each part. No condition but those that the parts name. -/
import Derived.Test.YthkpgjcnnfdibaaKys
import Derived.Test.YthkpgjcnnfdibaaJnt
/-! Plain functions of layer 6: a column's bytes, how they are read. No program in sight. -/
namespace Go.Proofs.Ythkpgjcnnfdibaa
open Go.RowKit
set_option linter.unusedVariables false

/-! ### bits -/
/-- the first k of the bits p, in m bytes -/
def bitsTo (m : Nat) (p : Nat → Bool) (k : Nat) : List UInt8 := layP m (fun i => decide (i < k) && p i)
/-- n bits -/
def bitsN (n : Nat) (p : Nat → Bool) : List UInt8 := bitsTo (size8 n) p n
theorem bitsTo_len (m : Nat) (p : Nat → Bool) (k : Nat) : (bitsTo m p k).length = m := layP_length _ _
theorem bitsTo_0 (m : Nat) (p : Nat → Bool) : bitsTo m p 0 = List.replicate m 0 := by
  unfold bitsTo
  rw [← layP_false]
  exact layP_congr fun i _ => by simp
theorem bitsTo_no {m k : Nat} {p : Nat → Bool} (h : p k = false) : bitsTo m p (k + 1) = bitsTo m p k := by
  unfold bitsTo
  refine layP_congr fun i _ => ?_
  by_cases hik : i = k
  · subst hik; simp [h]
  · congr 1
    exact decide_eq_decide.2 (by omega)
def byteTo (p : Nat → Bool) (k : Nat) : Nat := byteP (fun i => decide (i < k) && p i) (k / 8)
theorem byteTo_lt (p : Nat → Bool) (k : Nat) : byteTo p k < 256 := byteP_lt _ _
theorem bitsTo_get {m k : Nat} (p : Nat → Bool) (h : k < 8 * m) : (bitsTo m p k)[k / 8]? = some (byteTo p k).toUInt8 := by
  unfold bitsTo
  rw [layP_get _ (by omega)]; rfl
theorem bitsTo_yes {m k : Nat} {p : Nat → Bool} (h : p k = true) (hk : k < 8 * m) : bitsTo m p (k + 1) = (bitsTo m p k).set (k / 8) (byteTo p k ||| 2 ^ (k % 8)).toUInt8 := by
  unfold bitsTo byteTo
  rw [layP_set _ _ _ hk]
  refine layP_congr fun i _ => ?_
  by_cases hik : i = k
  · subst hik; simp [h]
  · have e : decide (i < k + 1) = decide (i < k) := decide_eq_decide.2 (by omega)
    simp [e, hik]
theorem byteTo_add {p : Nat → Bool} {k : Nat} : byteTo p k + 2 ^ (k % 8) = byteTo p k ||| 2 ^ (k % 8) ∧ byteTo p k + 2 ^ (k % 8) < 256 := by
  have hp : (fun i => decide (i < k) && p i) (8 * (k / 8) + k % 8) = false := by
    have : ¬ (8 * (k / 8) + k % 8 < k) := by omega
    simp [this]
  unfold byteTo
  rw [byteP_add _ _ _ (Nat.mod_lt _ (by omega)) hp, byteP_or _ _ _ (Nat.mod_lt _ (by omega))]
  exact ⟨rfl, byteP_lt _ _⟩
theorem bitsN_congr {n : Nat} {p q : Nat → Bool} (h : ∀ i, i < n → p i = q i) : bitsN n p = bitsN n q := by
  unfold bitsN bitsTo
  refine layP_congr fun i _ => ?_
  by_cases hi : i < n
  · rw [h i hi]
  · simp [hi]
theorem bitsN_len (n : Nat) (p : Nat → Bool) : (bitsN n p).length = size8 n := bitsTo_len _ _ _

/-! ### a column's bytes -/
def colok (t : UInt8) (l : List V) : Bool := tyok t && (decide (l.length ≤ 65536) && l.all (rmay t))
def marks (l : List V) : List V := l.filter fun v => !isNull v
def truthAt (l : List V) (i : Nat) : Bool := match l[i]? with | some v => decide (v.n = 1) | none => false
/-- texts, each once, in the order in which they come first -/
def addWord (ws : List (List UInt8)) (t : List UInt8) : List (List UInt8) := if t ∈ ws then ws else ws ++ [t]
def wordsF (ws : List (List UInt8)) (l : List V) : List (List UInt8) := l.foldl (fun ws v => addWord ws v.t) ws
def words (l : List V) : List (List UInt8) := wordsF [] l
def wbytes (w : List UInt8) : List UInt8 := vput w.length ++ w
def whichB (ws : List (List UInt8)) (t : List UInt8) : List UInt8 := vput (ws.idxOf t)
def tput (l : List V) : List UInt8 := vput (words l).length ++ ((words l).flatMap wbytes ++ l.flatMap fun v => whichB (words l) v.t)
def cbody (t : UInt8) (m : List V) : List UInt8 :=
  if t.toNat = 1 then bitsN m.length (truthAt m) else if t.toNat = 2 then In.iput (m.map V.n) else tput m
def cput (t : UInt8) (l : List V) : List UInt8 × Nat := if colok t l then (bitsN l.length (nullAt l) ++ cbody t (marks l), 0) else ([], 1)

/-! ### reading -/
/-- n bits that bytes begin with: the error -/
def tkE (b : List UInt8) (n : Nat) : Nat := if b.length < size8 n then 20 else if anyBit b n (8 * size8 n) then 21 else 0
/-- many words -/
def rwords : Nat → List (List UInt8) → List UInt8 → List (List UInt8) × List UInt8 × Nat
  | 0, ws, b => (ws, b, 0)
  | k + 1, ws, b =>
    if (vget b).2.2 ≠ 0 then ([], [], (vget b).2.2)
    else if b.length - (vget b).2.1 < (vget b).1 then ([], [], 20)
    else rwords k (ws ++ [(b.drop (vget b).2.1).take (vget b).1]) (b.drop ((vget b).2.1 + (vget b).1))
/-- n marks out of words -/
def rmarks (ws : List (List UInt8)) : Nat → List V → List UInt8 → List V × List UInt8 × Nat
  | 0, out, b => (out, b, 0)
  | k + 1, out, b =>
    if (vget b).2.2 ≠ 0 then ([], [], (vget b).2.2)
    else if ws.length ≤ (vget b).1 then ([], [], 21)
    else rmarks ws k (out ++ [⟨3, 0, (ws[(vget b).1]?).getD []⟩]) (b.drop (vget b).2.1)
def tget (b : List UInt8) (n : Nat) : List V × Nat :=
  if (vget b).2.2 ≠ 0 then ([], (vget b).2.2)
  else if n < (vget b).1 then ([], 21)
  else if (rwords (vget b).1 [] (b.drop (vget b).2.1)).2.2 ≠ 0 then ([], (rwords (vget b).1 [] (b.drop (vget b).2.1)).2.2)
  else if (rmarks (rwords (vget b).1 [] (b.drop (vget b).2.1)).1 n [] (rwords (vget b).1 [] (b.drop (vget b).2.1)).2.1).2.2 ≠ 0 then ([], (rmarks (rwords (vget b).1 [] (b.drop (vget b).2.1)).1 n [] (rwords (vget b).1 [] (b.drop (vget b).2.1)).2.1).2.2)
  else if tput (rmarks (rwords (vget b).1 [] (b.drop (vget b).2.1)).1 n [] (rwords (vget b).1 [] (b.drop (vget b).2.1)).2.1).1 = b then ((rmarks (rwords (vget b).1 [] (b.drop (vget b).2.1)).1 n [] (rwords (vget b).1 [] (b.drop (vget b).2.1)).2.1).1, 0)
  else ([], 21)
def truthsOf (b : List UInt8) (n : Nat) : List V := (List.range n).map fun i => ⟨1, if bitAt b i then 1 else 0, []⟩
def cread (t : UInt8) (b : List UInt8) (n : Nat) : List V × Nat :=
  if t.toNat = 1 then (if tkE b n ≠ 0 then ([], tkE b n) else if size8 n < b.length then ([], 21) else (truthsOf b n, 0))
  else if t.toNat = 2 then (if (In.iget b n).2 ≠ 0 then ([], (In.iget b n).2) else ((In.iget b n).1.map fun v => ⟨2, v, []⟩, 0))
  else tget b n
/-- the values behind their nulls -/
def merge (b : List UInt8) : Nat → Nat → List V → List V
  | _, 0, _ => []
  | i, k + 1, l => if bitAt b i then null :: merge b (i + 1) k l else (l.headD null) :: merge b (i + 1) k l.tail
/-- how many bits of n are not 1 -/
def zeros (b : List UInt8) (n : Nat) : Nat := ((List.range n).filter fun i => !bitAt b i).length
def cget (t : UInt8) (b : List UInt8) (n : Int) : List V × Nat :=
  if tyok t = false ∨ n < 0 ∨ 65536 < n then ([], 1)
  else if tkE b n.toNat ≠ 0 then ([], tkE b n.toNat)
  else if (cread t (b.drop (size8 n.toNat)) (zeros b n.toNat)).2 ≠ 0 then ([], (cread t (b.drop (size8 n.toNat)) (zeros b n.toNat)).2)
  else (merge b 0 n.toNat (cread t (b.drop (size8 n.toNat)) (zeros b n.toNat)).1, 0)
end Go.Proofs.Ythkpgjcnnfdibaa

/-! The walk of column.lay (layer 6), whatever function tells the bits: it answers bitsN, in new memory. For at most 65536 bits. -/
namespace Go.Proofs.Ythkpgjcnnfdibaa
open Go.RowKit Go.Maps
set_option linter.unusedVariables false
set_option linter.unusedSimpArgs false

set_option maxHeartbeats 4000000 in
set_option maxRecDepth 100000 in
theorem lay_any (n : Nat) (hn : n ≤ 65536) (f : FuncId) (q : Value) (p : Nat → Bool) (hent : ∀ args w, (callFunc f args).run Try.prog w = .ok (.enter f args) w) (w : World)
    (hp : ∀ w', Below w.heap.size w w' → ∀ i, i < n → Calls Try.prog f #[.int .i64 (i : Int), q] w' fun e w'' => e = .returned (.bool (p i)) ∧ w' = w'') :
    Calls Try.prog 54 #[.int .i64 (n : Int), .func (.func f) #[] #[q]] w (RetB w (bitsN n p)) := by
  obtain ⟨m, hm⟩ : ∃ m, m = size8 n := ⟨_, rfl⟩
  have hmn : m ≤ n + 7 := by rw [hm]; unfold size8; omega
  have hmI : ((n : Int) + 7) / 8 = (m : Int) := by rw [hm]; unfold size8; omega
  have hm8 : n ≤ 8 * m := by rw [hm]; exact size8_le n
  have HM := Lib.hid hm
  clear hm
  obtain ⟨i0, hi, hz0, hz1, hz2⟩ := info_parts Try.infoU8
  obtain ⟨w1, hmk, hown, hg⟩ := run_make_full (P := Try.prog) w w.heap.size 22 5 i0 (.int .u8 0) 1 Try.underlying22 hi hz0 hz1 .i64 .i64 m (by rw [hz2]; omega) (by unfold maxLen; omega) (Nat.le_refl _)
  have hmk2 : (Instr.makeSlice 22 (.int .i64 (m : Int)) (.int .i64 (m : Int))).run Try.prog w = .ok (.slice (some ⟨w.heap.size, 0, none⟩) m m) w1 := hmk
  have hown1 : w1.ownsRow w.heap.size 5 1 (.slice (some ⟨w.heap.size, 0, none⟩) m m) (bitsTo m p 0).length (cells (bitsTo m p 0)) := by
    have h := hown
    rw [show (Value.int .u8 0).cells = #[.int .u8 0] from rfl, toList_madeCells_one, Nat.mul_one] at h
    have e2 : cells (bitsTo m p 0) = List.replicate m (.int .u8 0) := by rw [bitsTo_0]; simp [cells]
    rw [e2, bitsTo_len]; exact h
  have hb1 : Below w.heap.size w w1 := (Below.refl _ w).grown hg (Nat.le_refl _) (by simp)
  clear hmk hown hi hz0 hz1 hz2 hg
  have HP := Lib.hid hp
  have HENT := Lib.hid hent
  clear hp hent
  go_enter Try.func54, Try.ntmps54
  go_wp2_with fail
  try rw [hmI]
  go_loopw [12] (fun v12 wr => ∃ k : Nat, k ≤ n ∧ v12 = .int .i64 k ∧ wr.ownsRow w.heap.size 5 1 (.slice (some ⟨w.heap.size, 0, none⟩) m m) (bitsTo m p k).length (cells (bitsTo m p k)) ∧ Below w.heap.size w wr) (fun v12 _ => n - (intOf v12).toNat)
  case atStart => exact ⟨0, by omega, rfl, hown1, hb1⟩
  case round =>
    clear hown1 hb1 hmk2
    obtain ⟨k, hk, rfl, hown, hbel⟩ := hrel
    by_cases hlt : k < n
    case neg =>
      have hkn : k = n := by omega
      have he : bitsTo m p k = bitsN n p := by rw [hkn, HM.out]; rfl
      rw [he] at hown
      have hl := bitsN_len n p
      rw [← HM.out] at hl
      subst hkn
      clear he
      go_wp2_with fail
      go_ret
      exact retB_of hown hbel
    have hkI : (k : Int) < (n : Int) := by omega
    have C0 := HP.out wr hbel k hlt
    have hent := HENT.out
    have hy : p k = true → bitsTo m p (k + 1) = (bitsTo m p k).set (k / 8) (byteTo p k ||| 2 ^ (k % 8)).toUInt8 := fun h => bitsTo_yes h (by omega)
    have hno : p k = false → bitsTo m p (k + 1) = bitsTo m p k := fun h => bitsTo_no h
    have hget := bitsTo_get (m := m) p (show k < 8 * m by omega)
    obtain ⟨pk, hpk⟩ : ∃ x, x = p k := ⟨_, rfl⟩
    rw [← hpk] at C0 hy hno
    obtain ⟨bs, hbs⟩ : ∃ bs, bs = bitsTo m p k := ⟨_, rfl⟩
    have hbl : bs.length = m := by rw [hbs]; exact bitsTo_len _ _ _
    rw [← hbs] at hown hy hno hget
    have HC := Lib.hid C0
    have HY := Lib.hid hy
    have HNO := Lib.hid hno
    rw [hbl] at hown
    clear C0 hy hno hpk hbs
    go_wp2_with fail
    refine HC.out.mono ?_; rintro e w4 ⟨rfl, rfl⟩
    cases pk
    · have hst := HNO.out rfl
      have HST := Lib.hid hst
      clear hst
      go_wp2_with fail
      go_roundw
      case rel => exact ⟨k + 1, by omega, by go_num, by rw [HST.out, hbl]; exact hown, hbel⟩
      case measure => simp [intOf]; omega
    · have hst := HY.out rfl
      obtain ⟨x, hx⟩ : ∃ x, x = byteTo p k := ⟨_, rfl⟩
      have hx256 : x < 256 := by rw [hx]; exact byteTo_lt _ _
      rw [← hx] at hget hst
      obtain ⟨j, hj⟩ : ∃ j, j = k / 8 := ⟨_, rfl⟩
      obtain ⟨r, hr⟩ : ∃ r, r = k % 8 := ⟨_, rfl⟩
      have hjI : (k : Int) / 8 = (j : Int) := by omega
      have hrI : (k : Int) % 8 = (r : Int) := by omega
      have hr8 : r < 8 := by omega
      have hjL : j < m := by omega
      have hjLI : (j : Int) < (m : Int) := by omega
      rw [← hj] at hget hst
      rw [← hr] at hst
      have hcell : wr.cell? ⟨w.heap.size, j, none⟩ = some (.int .u8 (x : Int)) := by
        rw [hown.cellAt j (by omega), List.getElem?_map, hget]
        simp [b8, toNat_toUInt8 hx256]
      have hfr : wr.frozen? ⟨w.heap.size, j, none⟩ = false := hown.frozenAt j
      have hwj : IntKind.i64.wrap (j : Int) = (j : Int) := by rw [IntKind.wrap_i64]; omega
      have htm : (k : Int).tmod 8 = (r : Int) := by rw [Int.tmod_eq_emod_of_nonneg (by omega)]; omega
      have hsh := fun w => shl8 r hr8 w
      have hor := or8 x (2 ^ r) hx256 (by have := Nat.pow_lt_pow_right (a := 2) (by omega) hr8; omega)
      have HST := Lib.hid hst
      have HR := Lib.hid hr
      clear hx hj hr hget hst
      go_wp2_with fail
      refine ah_start 11 (fun w' => True) rfl (by kernel_rfl) trivial ?_ ; intro hS
      (refine mv_val 0 (v := ?_) rfl (by kernel_rfl) (by kernel_rfl) (by kernel_rfl) (fun _ _ _ h => h) (by rfl) hS ?_ ?_; rotate_left; (focus (intro w hSw; (try dsimp only at hSw); (have f2 := hjL; have f3 := hjI; have f4 := hrI; have f5 := hjLI; have f6 := hr8; have f7 := hwj; have f8 := htm; have f9 := hsh w; have f10 := hor); go_simp; first | done | with_reducible rfl)); simp only [Act.put, List.setIfInBounds_toArray, List.set_cons_zero, List.set_cons_succ])
      (refine mv_val 1 (v := ?_) rfl (by kernel_rfl) (by kernel_rfl) (by kernel_rfl) (fun _ _ _ h => h) (by rfl) hS ?_ ?_; rotate_left; (focus (intro w hSw; (try dsimp only at hSw); (have f2 := hjL; have f3 := hjI; have f4 := hrI; have f5 := hjLI; have f6 := hr8; have f7 := hwj; have f8 := htm; have f9 := hsh w; have f10 := hor); go_simp; first | done | with_reducible rfl)); simp only [Act.put, List.setIfInBounds_toArray, List.set_cons_zero, List.set_cons_succ])
      (refine mv_val 2 (v := ?_) rfl (by kernel_rfl) (by kernel_rfl) (by kernel_rfl) (fun _ _ _ h => h) (by rfl) hS ?_ ?_; rotate_left; (focus (intro w hSw; (try dsimp only at hSw); (have f2 := hjL; have f3 := hjI; have f4 := hrI; have f5 := hjLI; have f6 := hr8; have f7 := hwj; have f8 := htm; have f9 := hsh w; have f10 := hor); go_simp; first | done | with_reducible rfl)); simp only [Act.put, List.setIfInBounds_toArray, List.set_cons_zero, List.set_cons_succ])
      (refine mv_val 3 (v := ?_) rfl (by kernel_rfl) (by kernel_rfl) (by kernel_rfl) (fun _ _ _ h => h) (by rfl) hS ?_ ?_; rotate_left; (focus (intro w hSw; (try dsimp only at hSw); (have f2 := hjL; have f3 := hjI; have f4 := hrI; have f5 := hjLI; have f6 := hr8; have f7 := hwj; have f8 := htm; have f9 := hsh w; have f10 := hor); go_simp; first | done | with_reducible rfl)); simp only [Act.put, List.setIfInBounds_toArray, List.set_cons_zero, List.set_cons_succ])
      (refine mv_val 5 (v := ?_) rfl (by kernel_rfl) (by kernel_rfl) (by kernel_rfl) (fun _ _ _ h => h) (by rfl) hS ?_ ?_; rotate_left; (focus (intro w hSw; (try dsimp only at hSw); (have f2 := hjL; have f3 := hjI; have f4 := hrI; have f5 := hjLI; have f6 := hr8; have f7 := hwj; have f8 := htm; have f9 := hsh w; have f10 := hor); go_simp; first | done | with_reducible rfl)); simp only [Act.put, List.setIfInBounds_toArray, List.set_cons_zero, List.set_cons_succ])
      (refine mv_val 6 (v := ?_) rfl (by kernel_rfl) (by kernel_rfl) (by kernel_rfl) (fun _ _ _ h => h) (by rfl) hS ?_ ?_; rotate_left; (focus (intro w hSw; (try dsimp only at hSw); (have f2 := hjL; have f3 := hjI; have f4 := hrI; have f5 := hjLI; have f6 := hr8; have f7 := hwj; have f8 := htm; have f9 := hsh w; have f10 := hor); go_simp; first | done | with_reducible rfl)); simp only [Act.put, List.setIfInBounds_toArray, List.set_cons_zero, List.set_cons_succ])
      (refine mv_val 7 (v := ?_) rfl (by kernel_rfl) (by kernel_rfl) (by kernel_rfl) (fun _ _ _ h => h) (by rfl) hS ?_ ?_; rotate_left; (focus (intro w hSw; (try dsimp only at hSw); (have f2 := hjL; have f3 := hjI; have f4 := hrI; have f5 := hjLI; have f6 := hr8; have f7 := hwj; have f8 := htm; have f9 := hsh w; have f10 := hor); go_simp; first | done | with_reducible rfl)); simp only [Act.put, List.setIfInBounds_toArray, List.set_cons_zero, List.set_cons_succ])
      refine mv_step 4 rfl (by kernel_rfl) (by rfl) (fun K hK => ?_)
      go_simp
      refine hK _ _ ?_ ?_ <;> clear hK K
      · trivial
      try simp only [Act.put, List.setIfInBounds_toArray, List.set_cons_zero, List.set_cons_succ]
      (refine mv_val 8 (v := ?_) rfl (by kernel_rfl) (by kernel_rfl) (by kernel_rfl) (fun _ _ _ h => h) (by rfl) hS ?_ ?_; rotate_left; (focus (intro w hSw; (try dsimp only at hSw); (have f2 := hjL; have f3 := hjI; have f4 := hrI; have f5 := hjLI; have f6 := hr8; have f7 := hwj; have f8 := htm; have f9 := hsh w; have f10 := hor); go_simp; first | done | with_reducible rfl)); simp only [Act.put, List.setIfInBounds_toArray, List.set_cons_zero, List.set_cons_succ])
      (refine mv_val 9 (v := ?_) rfl (by kernel_rfl) (by kernel_rfl) (by kernel_rfl) (fun _ _ _ h => h) (by rfl) hS ?_ ?_; rotate_left; (focus (intro w hSw; (try dsimp only at hSw); (have f2 := hjL; have f3 := hjI; have f4 := hrI; have f5 := hjLI; have f6 := hr8; have f7 := hwj; have f8 := htm; have f9 := hsh w; have f10 := hor); go_simp; first | done | with_reducible rfl)); simp only [Act.put, List.setIfInBounds_toArray, List.set_cons_zero, List.set_cons_succ])
      refine mv_step 10 rfl (by kernel_rfl) (by rfl) (fun K hK => ?_)
      go_simp
      refine hK _ _ ?_ ?_ <;> clear hK K
      · trivial
      try simp only [Act.put, List.setIfInBounds_toArray, List.set_cons_zero, List.set_cons_succ]
      refine wpAnyH_done (by kernel_rfl) ?_ _
      go_wp2_with fail
      go_roundw
      case rel =>
        have h256 : 2 ^ r < 256 := Nat.pow_lt_pow_right (a := 2) (by omega) hr8
        have hx2 : x ||| 2 ^ r < 256 := Nat.or_lt_two_pow (n := 8) hx256 (Nat.pow_lt_pow_right (by omega) hr8)
        refine ⟨k + 1, by omega, by go_num, ?_, (hbel.setCell (p := ⟨w.heap.size, j, none⟩) (Nat.le_refl _) _).drew⟩
        have hown2 := hown
        rw [← hbl] at hown2
        have h := own_byte (bs' := bitsTo m p (k + 1)) (j := j) (y := x ||| 2 ^ r) (z := bits .or .u8 (x : Int) ((2 : Int) ^ r % 256)) hown2 hx2 (by
          have e : ((2 ^ r : Nat) : Int) % 256 = ((2 ^ r : Nat) : Int) := Int.emod_eq_of_lt (Int.natCast_nonneg _) (Int.ofNat_lt.2 h256)
          rw [show ((2 : Int) ^ r) = ((2 ^ r : Nat) : Int) by simp, e, hor]) HST.out
        rw [hbl] at h
        exact h
      case measure => simp [intOf]; omega
end Go.Proofs.Ythkpgjcnnfdibaa

/-! Plain laws of layer 6 on bits: which bytes are the bits that they hold. No program in sight. -/
namespace Go.Proofs.Ythkpgjcnnfdibaa
open Go.RowKit
set_option linter.unusedVariables false

theorem byte8_all : ∀ x : Nat, x < 256 → x = byte8 (decide (x / 1 % 2 = 1)) (decide (x / 2 % 2 = 1)) (decide (x / 4 % 2 = 1)) (decide (x / 8 % 2 = 1)) (decide (x / 16 % 2 = 1)) (decide (x / 32 % 2 = 1)) (decide (x / 64 % 2 = 1)) (decide (x / 128 % 2 = 1)) := by decide +kernel
theorem layP_of (b : List UInt8) (m : Nat) (p : Nat → Bool) (hm : m ≤ b.length) (h : ∀ i, i < 8 * m → p i = bitAt b i) : layP m p = b.take m := by
  apply List.ext_getElem?
  intro j
  rcases Nat.lt_or_ge j m with hj | hj
  · rw [layP_get _ hj, List.getElem?_take, if_pos hj, List.getElem?_eq_getElem (by omega)]
    congr 1
    obtain ⟨x, hx⟩ : ∃ x, x = b[j]'(by omega) := ⟨_, rfl⟩
    rw [← hx]
    have hb : ∀ r, r < 8 → p (8 * j + r) = decide (x.toNat / 2 ^ r % 2 = 1) := fun r hr => by
      rw [h _ (by omega)]
      unfold bitAt
      rw [show (8 * j + r) / 8 = j by omega, show (8 * j + r) % 8 = r by omega, List.getElem?_eq_getElem (by omega), Option.getD_some, hx]
    rw [byteP_8]
    have e0 := hb 0 (by omega)
    rw [Nat.add_zero] at e0
    rw [e0, hb 1 (by omega), hb 2 (by omega), hb 3 (by omega), hb 4 (by omega), hb 5 (by omega), hb 6 (by omega), hb 7 (by omega)]
    have := byte8_all x.toNat x.toNat_lt
    show (byte8 (decide (x.toNat / 1 % 2 = 1)) (decide (x.toNat / 2 % 2 = 1)) (decide (x.toNat / 4 % 2 = 1)) (decide (x.toNat / 8 % 2 = 1)) (decide (x.toNat / 16 % 2 = 1)) (decide (x.toNat / 32 % 2 = 1)) (decide (x.toNat / 64 % 2 = 1)) (decide (x.toNat / 128 % 2 = 1))).toUInt8 = x
    rw [← this]
    simp
  · rw [List.getElem?_eq_none (by rw [layP_length]; exact hj), List.getElem?_eq_none (by rw [List.length_take]; omega)]
theorem anyBit_iff (b : List UInt8) (i m : Nat) : anyBit b i m = true ↔ ∃ q, i ≤ q ∧ q < m ∧ bitAt b q = true := by
  unfold anyBit
  rw [List.any_eq_true]
  constructor
  · rintro ⟨q, hq, h⟩
    rw [List.mem_range'_1] at hq
    exact ⟨q, hq.1, by omega, h⟩
  · rintro ⟨q, h1, h2, h⟩
    exact ⟨q, by rw [List.mem_range'_1]; omega, h⟩
theorem bitsN_bit (n : Nat) (p : Nat → Bool) (i : Nat) (hi : i < 8 * size8 n) : bitAt (bitsN n p) i = (decide (i < n) && p i) := layP_bit _ _ _ hi
/-- the bits of bytes, as bytes, are these bytes, just if no bit behind is set -/
theorem bits_eq {b : List UInt8} {n : Nat} (hb : size8 n ≤ b.length) : (bitsN n (bitAt b) = b.take (size8 n)) ↔ anyBit b n (8 * size8 n) = false := by
  constructor
  · intro h
    rw [← Bool.not_eq_true, anyBit_iff]
    rintro ⟨q, h1, h2, h3⟩
    have h4 := bitsN_bit n (bitAt b) q h2
    rw [h] at h4
    have h5 : bitAt (b.take (size8 n)) q = bitAt b q := by
      unfold bitAt
      rw [List.getElem?_take, if_pos (by omega)]
    rw [h5, h3] at h4
    simp at h4
    omega
  · intro h
    unfold bitsN bitsTo
    refine layP_of b (size8 n) _ hb fun i hi => ?_
    by_cases hin : i < n
    · simp [hin]
    · have h6 : bitAt b i = false := by
        rw [← Bool.not_eq_true]
        intro h7
        rw [← Bool.not_eq_true, anyBit_iff] at h
        exact h ⟨i, by omega, hi, h7⟩
      simp [hin, h6]
end Go.Proofs.Ythkpgjcnnfdibaa

/-! The walks of bytes.Equal and of column.take (layer 6). For at most 65536 bits. -/
namespace Go.Proofs.Ythkpgjcnnfdibaa
open Go.RowKit Go.Maps
set_option linter.unusedVariables false
set_option linter.unusedSimpArgs false

set_option maxRecDepth 100000 in
theorem Equal_any (B : Nat) (A A' : Option Addr) (c c' : Nat) (l m : List UInt8) (w : World) (h : Rd w B A (cells l)) (h' : Rd w B A' (cells m)) :
    Calls Try.prog 107 #[.slice A l.length c, .slice A' m.length c'] w fun e w' => e = .returned (.bool (decide (l = m))) ∧ w = w' := by
  have h1 := conv_rd h c
  have h2 := conv_rd h' c'
  obtain ⟨q, hq⟩ : ∃ q, q = decide (l = m) := ⟨_, rfl⟩
  have hq2 : (l == m) = q := by rw [hq]; by_cases e : l = m <;> simp [e]
  rw [← hq]
  have HQ := Lib.hid hq2
  clear hq hq2
  go_enter Try.func107, Try.ntmps107
  go_wp2
  go_ret
  exact ⟨by rw [← HQ.out]; rfl, rfl⟩

/-- all but block g is as it was -/
def Keep (g : Nat) (w w' : World) : Prop := (∀ k, k ≠ g → k < w.heap.size → w'.heap[k]? = w.heap[k]?) ∧ w.heap.size ≤ w'.heap.size
theorem Keep.refl (g : Nat) (w : World) : Keep g w w := ⟨fun _ _ _ => rfl, Nat.le_refl _⟩
theorem Keep.cell {g : Nat} {w w' : World} {p : Addr} {v : Value} (h : Keep g w w') (hp : p.block ≠ g) (hc : w.cell? p = some v) : w'.cell? p = some v := by
  have hlt := cell_lt hc
  have h1 := h.1 p.block hp hlt
  unfold World.cell? at hc ⊢
  rw [h1]; exact hc
theorem Keep.set {g : Nat} {w w' : World} (h : Keep g w w') (j : Nat) (x : Value) : Keep g w (w'.setCell ⟨g, j, none⟩ x) :=
  ⟨fun k hk hlt => (heap_setCell_other w' ⟨g, j, none⟩ k x hk).trans (h.1 k hk hlt), by simpa using h.2⟩

abbrev bools (l : List Bool) : List Value := l.map Value.bool
/-- the first k of the bits of bytes, among n -/
def blTo (b : List UInt8) (n k : Nat) : List Bool := (List.range n).map fun i => decide (i < k) && bitAt b i
def blN (b : List UInt8) (n : Nat) : List Bool := (List.range n).map fun i => bitAt b i
theorem blTo_len (b : List UInt8) (n k : Nat) : (blTo b n k).length = n := by simp [blTo]
theorem blN_len (b : List UInt8) (n : Nat) : (blN b n).length = n := by simp [blN]
theorem blTo_n (b : List UInt8) (n : Nat) : blTo b n n = blN b n := by
  unfold blTo blN
  refine List.map_congr_left fun i hi => ?_
  rw [List.mem_range] at hi
  simp [hi]
theorem blTo_0 (b : List UInt8) (n : Nat) : blTo b n 0 = List.replicate n false := by
  apply List.ext_getElem?
  intro i
  rw [List.getElem?_replicate]
  by_cases hi : i < n
  · simp [blTo, hi]
  · simp [blTo, hi]
theorem blTo_set (b : List UInt8) (n k : Nat) (hk : k < n) : (blTo b n k).set k (bitAt b k) = blTo b n (k + 1) := by
  apply List.ext_getElem?
  intro i
  rw [List.getElem?_set]
  by_cases hi : i < n
  · by_cases hik : k = i
    · subst hik
      simp [blTo, hi]
    · rw [if_neg hik]
      simp only [blTo, List.getElem?_map, List.getElem?_range hi, Option.map_some]
      congr 2
      exact decide_eq_decide.2 (by omega)
  · rw [List.getElem?_eq_none (l := blTo b n (k + 1)) (by rw [blTo_len]; omega)]
    split
    · omega
    · rw [List.getElem?_eq_none (by rw [blTo_len]; omega)]
theorem blN_get {b : List UInt8} {n i : Nat} (hi : i < n) : (blN b n)[i]? = some (bitAt b i) := by simp [blN, hi]
theorem Try.infoBool : (Try.prog.info? 4).map (fun i => (i.zero, i.size, i.bytes)) = some (some (.bool false), 1, 1) := by kernel_rfl

set_option maxRecDepth 100000 in
theorem take1_any (q : Nat) (A : Option Addr) (c i : Nat) (l : List Bool) (B : Nat) (w : World) (hq : w.cell? ⟨q, 0, none⟩ = some (.slice A l.length c)) (hr : Rd w B A (bools l)) (hi : i < l.length) (hl : l.length ≤ 4294967296) (x : Bool) (hx : l[i]? = some x) :
    Calls Try.prog 112 #[.int .i64 (i : Int), .pointer (some ⟨q, 0, none⟩)] w fun e w' => e = .returned (.bool x) ∧ w = w' := by
  obtain ⟨bb, oo, rfl, hb, hc⟩ := hr.at (k := i) (by simpa using hi)
  have hck := hc i (.bool x) (by rw [List.getElem?_map, hx]; rfl)
  have hiI : (i : Int) < (l.length : Int) := by omega
  clear hc hx hr
  go_enter Try.func112, Try.ntmps112
  go_wp2
  go_ret
  exact ⟨rfl, rfl⟩

/-- What take leaves: the bits, what is left, the error. -/
def RetT (w : World) (B : Nat) (b : List UInt8) (n : Nat) (e : Ending) (w' : World) : Prop :=
  (tkE b n ≠ 0 ∧ e = .returned (.tuple #[.slice none 0 0, .slice none 0 0, .int .i64 (tkE b n : Int)]) ∧ Below w.heap.size w w') ∨
  (tkE b n = 0 ∧ ∃ A c A' c', e = .returned (.tuple #[.slice A n c, .slice A' (b.drop (size8 n)).length c', .int .i64 0]) ∧ w'.ownsRow w.heap.size 4 1 (.slice A n c) n (bools (blN b n)) ∧ Rd w' B A' (cells (b.drop (size8 n))) ∧ (b.drop (size8 n)).length ≤ c' ∧ Below w.heap.size w w')

set_option maxHeartbeats 4000000 in
set_option maxRecDepth 100000 in
theorem take_any (B : Nat) (A : Option Addr) (c : Nat) (b : List UInt8) (n : Nat) (w : World) (hr : Rd w B A (cells b)) (hc : b.length ≤ c) (hB : B ≤ w.heap.size) (hn : n ≤ 65536) (hb : b.length ≤ 4294967296) :
    Calls Try.prog 98 #[.slice A b.length c, .int .i64 (n : Int)] w (RetT w B b n) := by
  obtain ⟨m, hm⟩ : ∃ m, m = size8 n := ⟨_, rfl⟩
  have hmn : m ≤ n + 7 := by rw [hm]; unfold size8; omega
  have hmI : ((n : Int) + 7) / 8 = (m : Int) := by rw [hm]; unfold size8; omega
  have hm8 : n ≤ 8 * m := by rw [hm]; exact size8_le n
  have HM := Lib.hid hm
  by_cases hLm : b.length < m
  case pos =>
    have he : tkE b n = 20 := by unfold tkE; rw [if_pos (by rw [← hm]; exact hLm)]
    have HE := Lib.hid he
    have hLI : (b.length : Int) < (m : Int) := by omega
    clear he hm
    go_enter Try.func98, Try.ntmps98
    go_wp2_with fail
    go_ret3
    exact .inl ⟨by rw [HE.out]; decide, by rw [HE.out]; rfl, Below.refl _ _⟩
  have htk : tkE b n = if anyBit b n (8 * size8 n) then 21 else 0 := by unfold tkE; rw [if_neg (by rw [← hm]; exact hLm)]
  have HTK := Lib.hid htk
  have hbe := bits_eq (b := b) (n := n) (by rw [← hm]; omega)
  have HBE := Lib.hid hbe
  have hLI : (m : Int) ≤ (b.length : Int) := by omega
  have hmL : m ≤ b.length := by omega
  clear hm htk hbe hLm
  obtain ⟨i0, hi, hz0, hz1, hz2⟩ := info_parts Try.infoBool
  obtain ⟨w1, hmk, hown, hg⟩ := run_make_full (P := Try.prog) w w.heap.size 106 4 i0 (.bool false) 1 Try.underlying106 hi hz0 hz1 .i64 .i64 n (by rw [hz2]; omega) (by unfold maxLen; omega) (Nat.le_refl _)
  have hmk2 : (Instr.makeSlice 106 (.int .i64 (n : Int)) (.int .i64 (n : Int))).run Try.prog w = .ok (.slice (some ⟨w.heap.size, 0, none⟩) n n) w1 := hmk
  have hown1 : w1.ownsRow w.heap.size 4 1 (.slice (some ⟨w.heap.size, 0, none⟩) n n) n (bools (blTo b n 0)) := by
    have h := hown
    rw [show (Value.bool false).cells = #[.bool false] from rfl, toList_madeCells_one, Nat.mul_one] at h
    have e2 : bools (blTo b n 0) = List.replicate n (.bool false) := by rw [blTo_0]; simp [bools]
    rw [e2]; exact h
  have hb1 : Below w.heap.size w w1 := (Below.refl _ w).grown hg (Nat.le_refl _) (by simp)
  have hgl : w.heap.size < w1.heap.size := (hown1.lt w.heap.size rfl).2
  clear hmk hown hi hz0 hz1 hz2 hg
  go_enter Try.func98, Try.ntmps98
  go_wp2_with fail
  rw [hmI]
  rw [show decide (b.length < m) = false from decide_eq_false (by omega)]
  obtain ⟨w2, hw2⟩ : ∃ w2, w2 = w1.alloc (.cells #[.slice (some ⟨w.heap.size, 0, none⟩) n n] 106) := ⟨_, rfl⟩
  have hown2 : w2.ownsRow w.heap.size 4 1 (.slice (some ⟨w.heap.size, 0, none⟩) n n) n (bools (blTo b n 0)) := by rw [hw2]; exact hown1.alloc _
  have hb2 : Below w.heap.size w w2 := by rw [hw2]; exact hb1.alloc hb1.size _
  have hq2 : w2.cell? ⟨w1.heap.size, 0, none⟩ = some (.slice (some ⟨w.heap.size, 0, none⟩) n n) := by rw [hw2]; simp [go_sem]
  obtain ⟨q, hq⟩ : ∃ q, q = w1.heap.size := ⟨_, rfl⟩
  rw [← hw2]
  rw [← hq] at hq2 ⊢
  have hqg : q ≠ w.heap.size := by omega
  have hwq : w.heap.size < q := by omega
  have hz2 : w2.heap.size = q + 1 := by rw [hw2, hq]; simp
  clear hw2 hown1 hb1 hmk2 hgl hq
  go_loopw [21] (fun v21 wr => ∃ k : Nat, k ≤ n ∧ v21 = .int .i64 k ∧ wr.ownsRow w.heap.size 4 1 (.slice (some ⟨w.heap.size, 0, none⟩) n n) n (bools (blTo b n k)) ∧ Below w.heap.size w wr ∧ wr.cell? ⟨q, 0, none⟩ = some (.slice (some ⟨w.heap.size, 0, none⟩) n n)) (fun v21 _ => n - (intOf v21).toNat)
  case atStart => exact ⟨0, by omega, rfl, hown2, hb2, hq2⟩
  case round =>
    clear hown2 hb2 hq2
    obtain ⟨k, hk, rfl, hown, hbel, hcq⟩ := hrel
    by_cases hlt : k < n
    · have hib : k / 8 < b.length := by omega
      obtain ⟨bb, oo, rfl, hbb, _⟩ := rd_cell hr hib
      obtain ⟨X, hX, hcell0, hbit⟩ := bit_facts hr k hib
      have hcell := (hbel.cell (p := ⟨bb, oo + k / 8, none⟩) (by show bb < _; omega)).trans hcell0
      have hbne : bb ≠ w.heap.size := by omega
      have hbs := blTo_set b n k hlt
      obtain ⟨bi, hbi⟩ : ∃ x, x = bitAt b k := ⟨_, rfl⟩
      rw [← hbi] at hbit hbs
      have HBS := Lib.hid hbs
      obtain ⟨j, hj⟩ : ∃ j, j = k / 8 := ⟨_, rfl⟩
      rw [← hj] at hcell hib
      have hjI : (k : Int) / 8 = (j : Int) := by omega
      have hjLI : (j : Int) < (b.length : Int) := by omega
      have hwj : IntKind.i64.wrap (j : Int) = (j : Int) := by rw [IntKind.wrap_i64]; omega
      obtain ⟨r, hrr⟩ : ∃ r, r = k % 8 := ⟨_, rfl⟩
      have hr8 : r < 8 := by omega
      have htm : (k : Int).tmod 8 = (r : Int) := by rw [Int.tmod_eq_emod_of_nonneg (by omega)]; omega
      have hsh := fun w => shr8 X r hX hr8 w
      have hkI : (k : Int) < (n : Int) := by omega
      have hwk : IntKind.i64.wrap (k : Int) = (k : Int) := by rw [IntKind.wrap_i64]; omega
      have hy : X / 2 ^ r < 256 := Nat.lt_of_le_of_lt (Nat.div_le_self _ _) hX
      have han := and1 (X / 2 ^ r) hy
      have hval : (((X / 2 ^ r % 2 : Nat) : Int) == 1) = bi := by
        rw [← hbit, hrr]
        obtain ⟨y, hyy⟩ : ∃ y, y = X / 2 ^ (k % 8) := ⟨_, rfl⟩
        rw [show ((X : Int) / 2 ^ (k % 8)) = ((X / 2 ^ (k % 8) : Nat) : Int) by simp, ← hyy, Int.tmod_eq_emod_of_nonneg (by omega)]
        by_cases h : y % 2 = 1
        · have h2 : (y : Int) % 2 = 1 := by omega
          simp [h, h2]
        · have h2 : (y : Int) % 2 = 0 := by omega
          have h3 : y % 2 = 0 := by omega
          simp [h3, h2]
      have hco := hown.cellAt k (by omega)
      have hfo := hown.frozenAt k
      rw [List.getElem?_map, List.getElem?_eq_getElem (by rw [blTo_len]; exact hlt)] at hco
      simp only [Option.map_some] at hco
      clear hj hrr hbi hbs hcell0 hy
      go_wp2_with fail
      refine ah_start 14 (fun w' => Keep w.heap.size wr w') rfl (by kernel_rfl) (Keep.refl _ _) ?_ ; intro hS
      (refine mv_val 0 (v := ?_) rfl (by kernel_rfl) (by kernel_rfl) (by kernel_rfl) (fun _ _ _ h => h) (by rfl) hS ?_ ?_; rotate_left; (focus (intro w hSw; (try dsimp only at hSw); (have f1 := hSw.cell (p := ⟨q, 0, none⟩) hqg hcq; have f2 := hSw.cell (p := ⟨bb, oo + j, none⟩) hbne hcell; have f3 := hjI; have f4 := hjLI; have f5 := hib; have f6 := hwj; have f7 := htm; have f8 := hsh w; have f9 := han; have f10 := hval; have f11 := hlt; have f12 := hkI; have f13 := hwk); go_simp; first | done | with_reducible rfl)); simp only [Act.put, List.setIfInBounds_toArray, List.set_cons_zero, List.set_cons_succ])
      (refine mv_val 1 (v := ?_) rfl (by kernel_rfl) (by kernel_rfl) (by kernel_rfl) (fun _ _ _ h => h) (by rfl) hS ?_ ?_; rotate_left; (focus (intro w hSw; (try dsimp only at hSw); (have f1 := hSw.cell (p := ⟨q, 0, none⟩) hqg hcq; have f2 := hSw.cell (p := ⟨bb, oo + j, none⟩) hbne hcell; have f3 := hjI; have f4 := hjLI; have f5 := hib; have f6 := hwj; have f7 := htm; have f8 := hsh w; have f9 := han; have f10 := hval; have f11 := hlt; have f12 := hkI; have f13 := hwk); go_simp; first | done | with_reducible rfl)); simp only [Act.put, List.setIfInBounds_toArray, List.set_cons_zero, List.set_cons_succ])
      (refine mv_val 2 (v := ?_) rfl (by kernel_rfl) (by kernel_rfl) (by kernel_rfl) (fun _ _ _ h => h) (by rfl) hS ?_ ?_; rotate_left; (focus (intro w hSw; (try dsimp only at hSw); (have f1 := hSw.cell (p := ⟨q, 0, none⟩) hqg hcq; have f2 := hSw.cell (p := ⟨bb, oo + j, none⟩) hbne hcell; have f3 := hjI; have f4 := hjLI; have f5 := hib; have f6 := hwj; have f7 := htm; have f8 := hsh w; have f9 := han; have f10 := hval; have f11 := hlt; have f12 := hkI; have f13 := hwk); go_simp; first | done | with_reducible rfl)); simp only [Act.put, List.setIfInBounds_toArray, List.set_cons_zero, List.set_cons_succ])
      (refine mv_val 3 (v := ?_) rfl (by kernel_rfl) (by kernel_rfl) (by kernel_rfl) (fun _ _ _ h => h) (by rfl) hS ?_ ?_; rotate_left; (focus (intro w hSw; (try dsimp only at hSw); (have f1 := hSw.cell (p := ⟨q, 0, none⟩) hqg hcq; have f2 := hSw.cell (p := ⟨bb, oo + j, none⟩) hbne hcell; have f3 := hjI; have f4 := hjLI; have f5 := hib; have f6 := hwj; have f7 := htm; have f8 := hsh w; have f9 := han; have f10 := hval; have f11 := hlt; have f12 := hkI; have f13 := hwk); go_simp; first | done | with_reducible rfl)); simp only [Act.put, List.setIfInBounds_toArray, List.set_cons_zero, List.set_cons_succ])
      (refine mv_val 4 (v := ?_) rfl (by kernel_rfl) (by kernel_rfl) (by kernel_rfl) (fun _ _ _ h => h) (by rfl) hS ?_ ?_; rotate_left; (focus (intro w hSw; (try dsimp only at hSw); (have f1 := hSw.cell (p := ⟨q, 0, none⟩) hqg hcq; have f2 := hSw.cell (p := ⟨bb, oo + j, none⟩) hbne hcell; have f3 := hjI; have f4 := hjLI; have f5 := hib; have f6 := hwj; have f7 := htm; have f8 := hsh w; have f9 := han; have f10 := hval; have f11 := hlt; have f12 := hkI; have f13 := hwk); go_simp; first | done | with_reducible rfl)); simp only [Act.put, List.setIfInBounds_toArray, List.set_cons_zero, List.set_cons_succ])
      (refine mv_val 5 (v := ?_) rfl (by kernel_rfl) (by kernel_rfl) (by kernel_rfl) (fun _ _ _ h => h) (by rfl) hS ?_ ?_; rotate_left; (focus (intro w hSw; (try dsimp only at hSw); (have f1 := hSw.cell (p := ⟨q, 0, none⟩) hqg hcq; have f2 := hSw.cell (p := ⟨bb, oo + j, none⟩) hbne hcell; have f3 := hjI; have f4 := hjLI; have f5 := hib; have f6 := hwj; have f7 := htm; have f8 := hsh w; have f9 := han; have f10 := hval; have f11 := hlt; have f12 := hkI; have f13 := hwk); go_simp; first | done | with_reducible rfl)); simp only [Act.put, List.setIfInBounds_toArray, List.set_cons_zero, List.set_cons_succ])
      (refine mv_val 6 (v := ?_) rfl (by kernel_rfl) (by kernel_rfl) (by kernel_rfl) (fun _ _ _ h => h) (by rfl) hS ?_ ?_; rotate_left; (focus (intro w hSw; (try dsimp only at hSw); (have f1 := hSw.cell (p := ⟨q, 0, none⟩) hqg hcq; have f2 := hSw.cell (p := ⟨bb, oo + j, none⟩) hbne hcell; have f3 := hjI; have f4 := hjLI; have f5 := hib; have f6 := hwj; have f7 := htm; have f8 := hsh w; have f9 := han; have f10 := hval; have f11 := hlt; have f12 := hkI; have f13 := hwk); go_simp; first | done | with_reducible rfl)); simp only [Act.put, List.setIfInBounds_toArray, List.set_cons_zero, List.set_cons_succ])
      (refine mv_val 7 (v := ?_) rfl (by kernel_rfl) (by kernel_rfl) (by kernel_rfl) (fun _ _ _ h => h) (by rfl) hS ?_ ?_; rotate_left; (focus (intro w hSw; (try dsimp only at hSw); (have f1 := hSw.cell (p := ⟨q, 0, none⟩) hqg hcq; have f2 := hSw.cell (p := ⟨bb, oo + j, none⟩) hbne hcell; have f3 := hjI; have f4 := hjLI; have f5 := hib; have f6 := hwj; have f7 := htm; have f8 := hsh w; have f9 := han; have f10 := hval; have f11 := hlt; have f12 := hkI; have f13 := hwk); go_simp; first | done | with_reducible rfl)); simp only [Act.put, List.setIfInBounds_toArray, List.set_cons_zero, List.set_cons_succ])
      (refine mv_val 8 (v := ?_) rfl (by kernel_rfl) (by kernel_rfl) (by kernel_rfl) (fun _ _ _ h => h) (by rfl) hS ?_ ?_; rotate_left; (focus (intro w hSw; (try dsimp only at hSw); (have f1 := hSw.cell (p := ⟨q, 0, none⟩) hqg hcq; have f2 := hSw.cell (p := ⟨bb, oo + j, none⟩) hbne hcell; have f3 := hjI; have f4 := hjLI; have f5 := hib; have f6 := hwj; have f7 := htm; have f8 := hsh w; have f9 := han; have f10 := hval; have f11 := hlt; have f12 := hkI; have f13 := hwk); go_simp; first | done | with_reducible rfl)); simp only [Act.put, List.setIfInBounds_toArray, List.set_cons_zero, List.set_cons_succ])
      (refine mv_val 9 (v := ?_) rfl (by kernel_rfl) (by kernel_rfl) (by kernel_rfl) (fun _ _ _ h => h) (by rfl) hS ?_ ?_; rotate_left; (focus (intro w hSw; (try dsimp only at hSw); (have f1 := hSw.cell (p := ⟨q, 0, none⟩) hqg hcq; have f2 := hSw.cell (p := ⟨bb, oo + j, none⟩) hbne hcell; have f3 := hjI; have f4 := hjLI; have f5 := hib; have f6 := hwj; have f7 := htm; have f8 := hsh w; have f9 := han; have f10 := hval; have f11 := hlt; have f12 := hkI; have f13 := hwk); go_simp; first | done | with_reducible rfl)); simp only [Act.put, List.setIfInBounds_toArray, List.set_cons_zero, List.set_cons_succ])
      (refine mv_val 10 (v := ?_) rfl (by kernel_rfl) (by kernel_rfl) (by kernel_rfl) (fun _ _ _ h => h) (by rfl) hS ?_ ?_; rotate_left; (focus (intro w hSw; (try dsimp only at hSw); (have f1 := hSw.cell (p := ⟨q, 0, none⟩) hqg hcq; have f2 := hSw.cell (p := ⟨bb, oo + j, none⟩) hbne hcell; have f3 := hjI; have f4 := hjLI; have f5 := hib; have f6 := hwj; have f7 := htm; have f8 := hsh w; have f9 := han; have f10 := hval; have f11 := hlt; have f12 := hkI; have f13 := hwk); go_simp; first | done | with_reducible rfl)); simp only [Act.put, List.setIfInBounds_toArray, List.set_cons_zero, List.set_cons_succ])
      (refine mv_val 11 (v := ?_) rfl (by kernel_rfl) (by kernel_rfl) (by kernel_rfl) (fun _ _ _ h => h) (by rfl) hS ?_ ?_; rotate_left; (focus (intro w hSw; (try dsimp only at hSw); (have f1 := hSw.cell (p := ⟨q, 0, none⟩) hqg hcq; have f2 := hSw.cell (p := ⟨bb, oo + j, none⟩) hbne hcell; have f3 := hjI; have f4 := hjLI; have f5 := hib; have f6 := hwj; have f7 := htm; have f8 := hsh w; have f9 := han; have f10 := hval; have f11 := hlt; have f12 := hkI; have f13 := hwk); go_simp; first | done | with_reducible rfl)); simp only [Act.put, List.setIfInBounds_toArray, List.set_cons_zero, List.set_cons_succ])
      (refine mv_val 12 (v := ?_) rfl (by kernel_rfl) (by kernel_rfl) (by kernel_rfl) (fun _ _ _ h => h) (by rfl) hS ?_ ?_; rotate_left; (focus (intro w hSw; (try dsimp only at hSw); (have f1 := hSw.cell (p := ⟨q, 0, none⟩) hqg hcq; have f2 := hSw.cell (p := ⟨bb, oo + j, none⟩) hbne hcell; have f3 := hjI; have f4 := hjLI; have f5 := hib; have f6 := hwj; have f7 := htm; have f8 := hsh w; have f9 := han; have f10 := hval; have f11 := hlt; have f12 := hkI; have f13 := hwk); go_simp; first | done | with_reducible rfl)); simp only [Act.put, List.setIfInBounds_toArray, List.set_cons_zero, List.set_cons_succ])
      refine mv_step 13 rfl (by kernel_rfl) (by rfl) (fun K hK => ?_)
      go_simp
      refine hK _ _ ?_ ?_ <;> clear hK K
      · exact (Keep.refl _ _).set _ _
      try simp only [Act.put, List.setIfInBounds_toArray, List.set_cons_zero, List.set_cons_succ]
      refine wpAnyH_done (by kernel_rfl) ?_ _
      go_wp2_with fail
      go_roundw
      case rel =>
        refine ⟨k + 1, by omega, by go_num, ?_, (hbel.setCell (p := ⟨w.heap.size, k, none⟩) (Nat.le_refl _) _).drew, ?_⟩
        · have h1 := (hown.stored k (.bool (bits .and .u8 ((X : Int) / 2 ^ r) 1 == 1))).1
          have e : (bits .and .u8 ((X : Int) / 2 ^ r) 1 == 1) = bi := by
            rw [show ((X : Int) / 2 ^ r) = ((X / 2 ^ r : Nat) : Int) by simp, han, hval]
          rw [e, show (bools (blTo b n k)).set k (.bool bi) = bools (blTo b n (k + 1)) by rw [← HBS.out]; unfold bools; rw [List.map_set]] at h1
          rw [e]; exact h1
        · exact ((Keep.refl _ wr).set _ _).cell (p := ⟨q, 0, none⟩) hqg hcq
      case measure => simp [intOf]; omega
    · have hkn : k = n := by omega
      rw [hkn, blTo_n] at hown
      have hge : (n : Int) ≤ (k : Int) := by omega
      have hbl := blN_len b n
      have hL := fun (w' : World) (h : Below wr.heap.size wr w') => lay_any n hn 112 (.pointer (some ⟨q, 0, none⟩)) (bitAt b) (fun _ _ => by kernel_rfl) w' (fun w'' h2 i hi => by
        have hw : Below wr.heap.size wr w'' := h.trans (h2.mono h.size)
        have hq3 : w''.cell? ⟨q, 0, none⟩ = some (.slice (some ⟨w.heap.size, 0, none⟩) (blN b n).length n) := by rw [hbl]; exact cell_be hcq hw (cell_lt hcq)
        exact take1_any q _ n i (blN b n) w''.heap.size w'' hq3 (rd_own (own_bel hown hw)) (by rw [hbl]; exact hi) (by rw [hbl]; omega) (bitAt b i) (blN_get hi))
      have hs1 := fun w' => upto_any (A := A) (n := b.length) (c := c) m hmL hc w' (m : Int) rfl
      obtain ⟨A6, c6, hsl6, hrd6, hc6⟩ := from_any (l := b) c m hmL hc (hr.below (hbel.mono hB))
      have hsl7 := fun w' => hsl6 w' (m : Int) rfl
      have hrt : Rd wr B A (cells (b.take m)) := by
        have := (hr.below (hbel.mono hB)).take m
        unfold cells at *; rw [List.map_take]; exact this
      have hml : (b.take m).length = m := by rw [List.length_take]; omega
      have HEQ := Lib.hid (fun (w' : World) (h : Below wr.heap.size wr w') (A7 : Option Addr) (c7 : Nat) h1 => Equal_any w'.heap.size A7 A c7 c (bitsN n (bitAt b)) (b.take m) w' h1 ((hrt.below (h.mono (by have := hbel.size; omega))).more (by have := hbel.size; have := h.size; omega)))
      rw [hml] at HEQ
      have HLAY := Lib.hid hL
      have hcond : bitsN n (bitAt b) = b.take m ↔ anyBit b n (8 * size8 n) = false := by rw [HM.out]; exact HBE.out
      obtain ⟨rest, hrest⟩ : ∃ r, r = b.drop m := ⟨_, rfl⟩
      rw [← hrest] at hsl7 hrd6 hc6
      have HREST := Lib.hid hrest
      have HCOND := Lib.hid hcond
      clear hkn hlt hL hsl6 hrt hcond hrest
      go_wp2_with fail
      refine ah_start 8 (fun w' => Below wr.heap.size wr w') rfl (by kernel_rfl) (Below.refl _ _).drew ?_ ; intro hS
      (refine mv_val 0 (v := ?_) rfl (by kernel_rfl) (by kernel_rfl) (by kernel_rfl) (fun _ _ _ h => h) (by rfl) hS ?_ ?_; rotate_left; (focus (intro w hSw; (try dsimp only at hSw); (have f1 := hs1 w); go_simp; first | done | with_reducible rfl)); simp only [Act.put, List.setIfInBounds_toArray, List.set_cons_zero, List.set_cons_succ])
      (refine mv_val 1 (v := ?_) rfl (by kernel_rfl) (by kernel_rfl) (by kernel_rfl) (fun _ _ _ h => h) (by rfl) hS ?_ ?_; rotate_left; (focus (intro w hSw; (try dsimp only at hSw); (have f1 := hs1 w); go_simp; first | done | with_reducible rfl)); simp only [Act.put, List.setIfInBounds_toArray, List.set_cons_zero, List.set_cons_succ])
      (refine mv_val 3 (v := ?_) rfl (by kernel_rfl) (by kernel_rfl) (by kernel_rfl) (fun _ _ _ h => h) (by rfl) hS ?_ ?_; rotate_left; (focus (intro w hSw; (try dsimp only at hSw); (have f1 := hs1 w); go_simp; first | done | with_reducible rfl)); simp only [Act.put, List.setIfInBounds_toArray, List.set_cons_zero, List.set_cons_succ])
      (refine mv_val 4 (v := ?_) rfl (by kernel_rfl) (by kernel_rfl) (by kernel_rfl) (fun _ _ _ h => h) (by rfl) hS ?_ ?_; rotate_left; (focus (intro w hSw; (try dsimp only at hSw); (have f1 := hs1 w); go_simp; first | done | with_reducible rfl)); simp only [Act.put, List.setIfInBounds_toArray, List.set_cons_zero, List.set_cons_succ])
      (refine mv_val 5 (v := ?_) rfl (by kernel_rfl) (by kernel_rfl) (by kernel_rfl) (fun _ _ _ h => h) (by rfl) hS ?_ ?_; rotate_left; (focus (intro w hSw; (try dsimp only at hSw); (have f1 := hs1 w); go_simp; first | done | with_reducible rfl)); simp only [Act.put, List.setIfInBounds_toArray, List.set_cons_zero, List.set_cons_succ])
      (refine mv_call 2 (f := ?_) (args := ?_) rfl (by kernel_rfl) (by rfl) ?_ ?_; rotate_left 2; (focus (go_simp; first | done | with_reducible rfl | (refine ⟨?_, ?_⟩ <;> with_reducible rfl))))
      refine (HLAY.out _ hS).mono ?_; rintro e w4 ⟨A4, c4, rfl, hown4, hb4⟩
      have hS4 : Below wr.heap.size wr w4 := hS.trans (hb4.mono hS.size)
      refine ⟨_, rfl, hS4, ?_⟩
      replace hS := hS4
      clear hS4
      simp only [Act.put, List.setIfInBounds_toArray, List.set_cons_zero, List.set_cons_succ]
      (refine mv_call 6 (f := ?_) (args := ?_) rfl (by kernel_rfl) (by rfl) ?_ ?_; rotate_left 2; (focus (go_simp; first | done | with_reducible rfl | (refine ⟨?_, ?_⟩ <;> with_reducible rfl))))
      refine (HEQ.out _ hS A4 c4 (rd_own hown4)).mono ?_; rintro e w5 ⟨rfl, rfl⟩
      refine ⟨_, rfl, hS, ?_⟩
      simp only [Act.put, List.setIfInBounds_toArray, List.set_cons_zero, List.set_cons_succ]
      (refine mv_val 7 (v := ?_) rfl (by kernel_rfl) (by kernel_rfl) (by kernel_rfl) (fun _ _ _ h => h) (by rfl) hS ?_ ?_; rotate_left; (focus (intro w hSw; (try dsimp only at hSw); (have f1 := hs1 w); go_simp; first | done | with_reducible rfl)); simp only [Act.put, List.setIfInBounds_toArray, List.set_cons_zero, List.set_cons_succ])
      refine wpAnyH_done (by kernel_rfl) ?_ _
      have hb05 : Below w.heap.size w w4 := hbel.trans (hS.mono hbel.size)
      have hcq4 := cell_be hcq hS (cell_lt hcq)
      have hown5 := own_bel hown hS
      have hrd4 := hrd6.below (hS.mono (show B ≤ wr.heap.size by have := hbel.size; omega))
      clear hown4 hb4
      by_cases hab : anyBit b n (8 * size8 n) = true
      · have he : tkE b n = 21 := by rw [HTK.out, if_pos hab]
        have hd : decide (bitsN n (bitAt b) = b.take m) = false := by
          rw [decide_eq_false_iff_not, HCOND.out, hab]; simp
        rw [hd]
        have HE := Lib.hid he
        clear hd he hab
        go_wp2_with fail
        go_ret3
        exact .inl ⟨by rw [HE.out]; decide, by rw [HE.out]; rfl, hb05⟩
      · have hab0 : anyBit b n (8 * size8 n) = false := by simpa using hab
        have he : tkE b n = 0 := by rw [HTK.out, if_neg hab]
        have hd : decide (bitsN n (bitAt b) = b.take m) = true := by
          rw [decide_eq_true_iff, HCOND.out, hab0]
        rw [hd]
        have HE := Lib.hid he
        clear hd he hab hab0
        go_wp2_with fail
        refine ah_start 7 (fun w' => w'.cell? ⟨q, 0, none⟩ = some (.slice (some ⟨w.heap.size, 0, none⟩) n n)) rfl (by kernel_rfl) hcq4 ?_ ; clear hS; intro hS
        (refine mv_val 0 (v := ?_) rfl (by kernel_rfl) (by kernel_rfl) (by kernel_rfl) (fun _ _ _ h => h) (by rfl) hS ?_ ?_; rotate_left; (focus (intro w hSw; (try dsimp only at hSw); (have f1 := hSw; have f2 := hsl7 w); go_simp; first | done | with_reducible rfl)); simp only [Act.put, List.setIfInBounds_toArray, List.set_cons_zero, List.set_cons_succ])
        (refine mv_val 1 (v := ?_) rfl (by kernel_rfl) (by kernel_rfl) (by kernel_rfl) (fun _ _ _ h => h) (by rfl) hS ?_ ?_; rotate_left; (focus (intro w hSw; (try dsimp only at hSw); (have f1 := hSw; have f2 := hsl7 w); go_simp; first | done | with_reducible rfl)); simp only [Act.put, List.setIfInBounds_toArray, List.set_cons_zero, List.set_cons_succ])
        (refine mv_val 2 (v := ?_) rfl (by kernel_rfl) (by kernel_rfl) (by kernel_rfl) (fun _ _ _ h => h) (by rfl) hS ?_ ?_; rotate_left; (focus (intro w hSw; (try dsimp only at hSw); (have f1 := hSw; have f2 := hsl7 w); go_simp; first | done | with_reducible rfl)); simp only [Act.put, List.setIfInBounds_toArray, List.set_cons_zero, List.set_cons_succ])
        (refine mv_val 3 (v := ?_) rfl (by kernel_rfl) (by kernel_rfl) (by kernel_rfl) (fun _ _ _ h => h) (by rfl) hS ?_ ?_; rotate_left; (focus (intro w hSw; (try dsimp only at hSw); (have f1 := hSw; have f2 := hsl7 w); go_simp; first | done | with_reducible rfl)); simp only [Act.put, List.setIfInBounds_toArray, List.set_cons_zero, List.set_cons_succ])
        (refine mv_val 4 (v := ?_) rfl (by kernel_rfl) (by kernel_rfl) (by kernel_rfl) (fun _ _ _ h => h) (by rfl) hS ?_ ?_; rotate_left; (focus (intro w hSw; (try dsimp only at hSw); (have f1 := hSw; have f2 := hsl7 w); go_simp; first | done | with_reducible rfl)); simp only [Act.put, List.setIfInBounds_toArray, List.set_cons_zero, List.set_cons_succ])
        (refine mv_val 5 (v := ?_) rfl (by kernel_rfl) (by kernel_rfl) (by kernel_rfl) (fun _ _ _ h => h) (by rfl) hS ?_ ?_; rotate_left; (focus (intro w hSw; (try dsimp only at hSw); (have f1 := hSw; have f2 := hsl7 w); go_simp; first | done | with_reducible rfl)); simp only [Act.put, List.setIfInBounds_toArray, List.set_cons_zero, List.set_cons_succ])
        (refine mv_val 6 (v := ?_) rfl (by kernel_rfl) (by kernel_rfl) (by kernel_rfl) (fun _ _ _ h => h) (by rfl) hS ?_ ?_; rotate_left; (focus (intro w hSw; (try dsimp only at hSw); (have f1 := hSw; have f2 := hsl7 w); go_simp; first | done | with_reducible rfl)); simp only [Act.put, List.setIfInBounds_toArray, List.set_cons_zero, List.set_cons_succ])
        refine wpAnyH_done (by kernel_rfl) ?_ _
        go_wp2_with fail
        go_ret3
        refine .inr ⟨HE.out, _, _, A6, c6, ?_, hown5, ?_, ?_, hb05.drew⟩
        · rw [← HM.out, ← HREST.out]; rfl
        · rw [← HM.out, ← HREST.out]
          exact hrd4
        · rw [← HM.out, ← HREST.out]; exact hc6
end Go.Proofs.Ythkpgjcnnfdibaa

/-! The walks of column.putTruths, getTruths, putNumbers, getNumbers (layer 6). For at most 65536 values. -/
namespace Go.Proofs.Ythkpgjcnnfdibaa
open Go.RowKit Go.Maps
set_option linter.unusedVariables false
set_option linter.unusedSimpArgs false

/-! ### closures over a slice of values -/
section
variable (q : Nat) (A : Option Addr) (c i : Nat) (l : List V) (B : Nat) (w : World) (hq : w.cell? ⟨q, 0, none⟩ = some (.slice A l.length c)) (hr : Rd w B A (vcells l)) (hi : i < l.length)
include hq hr hi
set_option maxRecDepth 100000 in
theorem truth1_any : Calls Try.prog 104 #[.int .i64 (i : Int), .pointer (some ⟨q, 0, none⟩)] w fun e w' => e = .returned (.bool (truthAt l i)) ∧ w = w' := by
  obtain ⟨v, hv⟩ : ∃ v, l[i]? = some v := ⟨_, List.getElem?_eq_getElem hi⟩
  obtain ⟨gb, go, rfl, hgb, q0, q1, q2⟩ := rd_val hr hv
  have hiI : (i : Int) < (l.length : Int) := by omega
  obtain ⟨x, hx⟩ : ∃ x, x = truthAt l i := ⟨_, rfl⟩
  have hx2 : (v.n == 1) = x := by rw [hx]; unfold truthAt; rw [hv]; by_cases h : v.n = 1 <;> simp [h]
  rw [← hx]
  have HX := Lib.hid hx2
  clear hv hx hx2 hr
  go_enter Try.func104, Try.ntmps104
  go_wp2
  go_ret
  exact ⟨by rw [← HX.out]; rfl, rfl⟩
set_option maxRecDepth 100000 in
theorem null1_any : Calls Try.prog 55 #[.int .i64 (i : Int), .pointer (some ⟨q, 0, none⟩)] w fun e w' => e = .returned (.bool (nullAt l i)) ∧ w = w' := by
  obtain ⟨v, hv⟩ : ∃ v, l[i]? = some v := ⟨_, List.getElem?_eq_getElem hi⟩
  obtain ⟨gb, go, rfl, hgb, q0, q1, q2⟩ := rd_val hr hv
  have hiI : (i : Int) < (l.length : Int) := by omega
  obtain ⟨x, hx⟩ : ∃ x, x = nullAt l i := ⟨_, rfl⟩
  have hx2 : ((v.k : Int) == 0) = x := by
    rw [hx, nullAt_of hv]
    unfold isNull
    by_cases h : v.k = 0
    · simp [h]
    · rw [decide_eq_false h]; exact beq_eq_false_iff_ne.2 (by omega)
  rw [← hx]
  have HX := Lib.hid hx2
  clear hv hx hx2 hr
  go_enter Try.func55, Try.ntmps55
  go_wp2
  go_ret
  exact ⟨by rw [← HX.out]; rfl, rfl⟩
end

set_option maxRecDepth 100000 in
theorem putTruths_any (A : Option Addr) (c : Nat) (l : List V) (w : World) (hr : Rd w w.heap.size A (vcells l)) (hl : l.length ≤ 65536) :
    Calls Try.prog 84 #[.slice A l.length c] w (RetB w (bitsN l.length (truthAt l))) := by
  obtain ⟨w1, hw1⟩ : ∃ w1, w1 = w.alloc (.cells #[.slice A l.length c] 37) := ⟨_, rfl⟩
  have hb1 : Below w.heap.size w w1 := by rw [hw1]; exact (Below.refl _ _).alloc (Nat.le_refl _) _
  have hq1 : w1.cell? ⟨w.heap.size, 0, none⟩ = some (.slice A l.length c) := by rw [hw1]; simp [go_sem]
  have hL := lay_any l.length hl 104 (.pointer (some ⟨w.heap.size, 0, none⟩)) (truthAt l) (fun _ _ => by kernel_rfl) w1 (fun w' h i hi => truth1_any w.heap.size A c i l w.heap.size w' (cell_be hq1 h (cell_lt hq1)) (hr.below (hb1.trans (h.mono hb1.size))) hi)
  rw [hw1] at hL
  have HL := Lib.hid hL
  clear hL hw1 hq1 hb1
  go_enter Try.func84, Try.ntmps84
  go_wp2_with fail
  refine HL.out.mono ?_; rintro e w4 ⟨A4, c4, rfl, hown4, hb4⟩
  have hb : Below w.heap.size w w4 := ((Below.refl _ _).alloc (Nat.le_refl _) _).trans (hb4.mono (by simp))
  have hown5 : w4.ownsRow w.heap.size 5 1 (.slice A4 (bitsN l.length (truthAt l)).length c4) (bitsN l.length (truthAt l)).length (cells (bitsN l.length (truthAt l))) := own_lower hown4 (by simp)
  clear hown4 hb4
  go_wp2_with fail
  go_ret
  exact retB_of hown5 hb

/-! ### one field of a value set -/
theorem set_kind {l : List V} {i : Nat} {v : V} (h : l[i]? = some v) (x : Nat) : (vcells l).set (i * 3) (.int .u8 (x : Int)) = vcells (l.set i ⟨x, v.n, v.t⟩) := by
  have hi : i < l.length := (List.getElem?_eq_some_iff.1 h).1
  apply List.ext_getElem?
  intro j
  rw [vcells_get (l.set i ⟨x, v.n, v.t⟩), List.getElem?_set (l := l)]
  have hl := vcells_length l
  by_cases hj : i = j / 3
  · rw [if_pos hj, if_pos hi]
    rcases (by omega : j = i * 3 ∨ j = i * 3 + 1 ∨ j = i * 3 + 2) with rfl | rfl | rfl
    · rw [List.getElem?_set_self (by omega), show i * 3 % 3 = 0 by omega]; rfl
    · rw [List.getElem?_set_ne (by omega), (vcells_at l i v h).2.1, show (i * 3 + 1) % 3 = 1 by omega]; rfl
    · rw [List.getElem?_set_ne (by omega), (vcells_at l i v h).2.2, show (i * 3 + 2) % 3 = 2 by omega]; rfl
  · rw [if_neg hj, List.getElem?_set_ne (by omega), vcells_get]
theorem set_num {l : List V} {i : Nat} {v : V} (h : l[i]? = some v) (x : Int) : (vcells l).set (i * 3 + 1) (.int .i64 x) = vcells (l.set i ⟨v.k, x, v.t⟩) := by
  have hi : i < l.length := (List.getElem?_eq_some_iff.1 h).1
  apply List.ext_getElem?
  intro j
  rw [vcells_get (l.set i ⟨v.k, x, v.t⟩), List.getElem?_set (l := l)]
  have hl := vcells_length l
  by_cases hj : i = j / 3
  · rw [if_pos hj, if_pos hi]
    rcases (by omega : j = i * 3 ∨ j = i * 3 + 1 ∨ j = i * 3 + 2) with rfl | rfl | rfl
    · rw [List.getElem?_set_ne (by omega), (vcells_at l i v h).1, show i * 3 % 3 = 0 by omega]; rfl
    · rw [List.getElem?_set_self (by omega), show (i * 3 + 1) % 3 = 1 by omega]; rfl
    · rw [List.getElem?_set_ne (by omega), (vcells_at l i v h).2.2, show (i * 3 + 2) % 3 = 2 by omega]; rfl
  · rw [if_neg hj, List.getElem?_set_ne (by omega), vcells_get]
/-- k truths, and nulls behind -/
def trTo (b : List UInt8) (n k : Nat) : List V := truthsOf b k ++ List.replicate (n - k) null
theorem trTo_len {b : List UInt8} {n k : Nat} (h : k ≤ n) : (trTo b n k).length = n := by simp [trTo, truthsOf]; omega
theorem trTo_get {b : List UInt8} {n k : Nat} (h : k < n) : (trTo b n k)[k]? = some null := by
  unfold trTo
  rw [List.getElem?_append_right (by simp [truthsOf]), show k - (truthsOf b k).length = 0 by simp [truthsOf], List.getElem?_replicate, if_pos (by omega)]
theorem trTo_set {b : List UInt8} {n k : Nat} (h : k < n) : (trTo b n k).set k ⟨1, if bitAt b k then 1 else 0, []⟩ = trTo b n (k + 1) := by
  unfold trTo truthsOf
  rw [List.set_append_right _ _ (by simp), List.length_map, List.length_range, Nat.sub_self, show n - k = (n - (k + 1)) + 1 by omega, List.replicate_succ, List.set_cons_zero, List.range_succ, List.map_append, List.append_assoc]
  rfl

set_option maxHeartbeats 4000000 in
set_option maxRecDepth 100000 in
theorem getTruths_any (B : Nat) (A : Option Addr) (c : Nat) (b : List UInt8) (n : Nat) (w : World) (hr : Rd w B A (cells b)) (hc : b.length ≤ c) (hB : B ≤ w.heap.size) (hn : n ≤ 65536) (hb : b.length ≤ 4294967296) :
    Calls Try.prog 85 #[.slice A b.length c, .int .i64 (n : Int)] w (RetVE w (cread 1 b n)) := by
  have hcr : cread 1 b n = (if tkE b n ≠ 0 then ([], tkE b n) else if size8 n < b.length then ([], 21) else (truthsOf b n, 0)) := by unfold cread; rw [if_pos (by decide)]
  have T0 := take_any B A c b n w hr hc hB hn hb
  have HT := Lib.hid T0
  have HCR := Lib.hid hcr
  clear T0 hcr
  go_enter Try.func85, Try.ntmps85
  go_wp2_with fail
  refine HT.out.mono ?_
  rintro e w1 (⟨he, rfl, hb1⟩ | ⟨he, A1, c1, A2, c2, rfl, hown1, hrd1, hc2, hb1⟩)
  · have hE : cread 1 b n = ([], tkE b n) := by rw [HCR.out, if_pos he]
    obtain ⟨x, hx⟩ : ∃ x, x = tkE b n := ⟨_, rfl⟩
    rw [← hx] at hE he ⊢
    have HE := Lib.hid hE
    have heI : ((x : Int) != 0) = true := by simp; omega
    clear hE he hx
    go_wp2_with fail
    go_ret2
    exact retVE_err HE.out hb1
  have hrl : (b.drop (size8 n)).length = b.length - size8 n := List.length_drop
  by_cases hbl : size8 n < b.length
  · have hE : cread 1 b n = ([], 21) := by rw [HCR.out, if_neg (by simpa using he), if_pos hbl]
    have HE := Lib.hid hE
    have hI : (0 : Int) < ((b.drop (size8 n)).length : Int) := by omega
    obtain ⟨rl, hrlx⟩ : ∃ rl, rl = (b.drop (size8 n)).length := ⟨_, rfl⟩
    rw [← hrlx] at hI ⊢
    clear hE hrl hrlx
    go_wp2_with fail
    go_ret2
    exact retVE_err HE.out hb1
  have hE : cread 1 b n = (truthsOf b n, 0) := by rw [HCR.out, if_neg (by simpa using he), if_neg hbl]
  have HE := Lib.hid hE
  have hI : (b.drop (size8 n)).length = 0 := by omega
  rw [hI]
  clear hE hrl hbl he hI hrd1 hc2
  obtain ⟨by_, hinfo, hby⟩ := Try.infoVal
  obtain ⟨i0, hi, hz0, hz1, hz2⟩ := info_parts hinfo
  obtain ⟨w2, hmk, hown, hg⟩ := run_make_full (P := Try.prog) w1 w1.heap.size 37 46 i0 (.agg #[.int .u8 0, .int .i64 0, .string ByteArray.empty]) 3 Try.underlying37 hi hz0 hz1 .i64 .i64 n (by rw [hz2]; exact Nat.le_trans (Nat.mul_le_mul hby hn) (by decide)) (by unfold maxLen; omega) (Nat.le_refl _)
  have hmk2 : (Instr.makeSlice 37 (.int .i64 (n : Int)) (.int .i64 (n : Int))).run Try.prog w1 = .ok (.slice (some ⟨w1.heap.size, 0, none⟩) n n) w2 := hmk
  have hown2 : w2.ownsRow w1.heap.size 46 3 (.slice (some ⟨w1.heap.size, 0, none⟩) n n) n (vcells (trTo b n 0)) := by
    have h := hown
    rwa [vcells_rep null n (Value.agg #[.int .u8 0, .int .i64 0, .string ByteArray.empty]).cells rfl] at h
  have hb2 : Below w1.heap.size w1 w2 := (Below.refl _ w1).grown hg (Nat.le_refl _) (by simp)
  clear hmk hown hi hz0 hz1 hz2 hg hinfo
  go_wp2_with fail
  obtain ⟨g, hgg⟩ : ∃ g, g = w1.heap.size := ⟨_, rfl⟩
  rw [← hgg] at hown2 hmk2 ⊢
  have hrb := (rd_own hown1).more (Nat.le_refl _)
  rw [← hgg] at hrb
  rw [← hgg] at hb2
  have hgw : w.heap.size ≤ g := by rw [hgg]; exact hb1.size
  clear hgg
  go_loopw [31] (fun v31 wr => ∃ k : Nat, k ≤ n ∧ v31 = .int .i64 k ∧ wr.ownsRow g 46 3 (.slice (some ⟨g, 0, none⟩) n n) n (vcells (trTo b n k)) ∧ Below g w1 wr) (fun v31 _ => n - (intOf v31).toNat)
  case atStart => exact ⟨0, by omega, rfl, hown2, hb2⟩
  case round =>
    clear hown2 hb2 hmk2
    obtain ⟨k, hk, rfl, hown, hbel⟩ := hrel
    by_cases hlt : k < n
    case neg =>
      have hkn : k = n := by omega
      have hge : (n : Int) ≤ (k : Int) := by omega
      have hl : (truthsOf b n).length = n := by simp [truthsOf]
      rw [hkn, show trTo b n n = truthsOf b n by simp [trTo]] at hown
      have hown3 : wr.ownsRow w.heap.size 46 3 (.slice (some ⟨g, 0, none⟩) n n) (truthsOf b n).length (vcells (truthsOf b n)) := by rw [hl]; exact own_lower hown hgw
      clear hkn
      go_wp2_with fail
      go_ret2
      exact retVE_ok HE.out hown3 (hb1.trans (hbel.mono hgw))
    have hkI : (k : Int) < (n : Int) := by omega
    obtain ⟨bb, oo, rfl, hbb, hcell⟩ := hrb.at (k := k) (by simp [blN_len]; exact hlt)
    have hck0 := hcell k (.bool (bitAt b k)) (by rw [List.getElem?_map, blN_get hlt]; rfl)
    have hck := (hbel.cell (p := ⟨bb, oo + k, none⟩) hbb).trans hck0
    have ca := hown.cellAt (k * 3) (by omega)
    have cb := hown.cellAt (k * 3 + 1) (by omega)
    obtain ⟨e1, e2, e3⟩ := vcells_at _ _ _ (trTo_get (b := b) hlt)
    rw [e1] at ca; rw [e2] at cb
    have fa := hown.frozenAt (k * 3)
    have fb := hown.frozenAt (k * 3 + 1)
    have hs1 := (hown.stored (k * 3) (.int .u8 1)).1
    rw [show (Value.int .u8 1) = Value.int .u8 ((1 : Nat) : Int) from rfl, set_kind (trTo_get hlt)] at hs1
    have hs2 := (hs1.stored (k * 3 + 1) (.int .i64 1)).1
    have hgt : ((trTo b n k).set k ⟨1, null.n, null.t⟩)[k]? = some ⟨1, null.n, null.t⟩ := by rw [List.getElem?_set_self (by rw [trTo_len hk]; exact hlt)]
    rw [set_num hgt, List.set_set] at hs2
    have hst := trTo_set (b := b) hlt
    obtain ⟨bi, hbi⟩ : ∃ x, x = bitAt b k := ⟨_, rfl⟩
    rw [← hbi] at hck hst
    have HS1 := Lib.hid hs1
    have HS2 := Lib.hid hs2
    have HST := Lib.hid hst
    clear hcell hck0 e1 e2 e3 hs1 hs2 hgt hst hbi
    cases bi
    · go_wp2_with fail
      go_roundw
      case rel =>
        refine ⟨k + 1, by omega, by go_num, ?_, ?_⟩
        · rw [← HST.out]; exact HS1.out
        · exact hbel.setCell (p := ⟨g, k * 3, none⟩) (Nat.le_refl _) _
      case measure => simp [intOf]; omega
    · go_wp2_with fail
      go_roundw
      case rel =>
        refine ⟨k + 1, by omega, by go_num, ?_, ?_⟩
        · rw [← HST.out]; exact HS2.out
        · exact (hbel.setCell (p := ⟨g, k * 3, none⟩) (Nat.le_refl _) _).setCell (p := ⟨g, k * 3 + 1, none⟩) (Nat.le_refl _) _
      case measure => simp [intOf]; omega
end Go.Proofs.Ythkpgjcnnfdibaa

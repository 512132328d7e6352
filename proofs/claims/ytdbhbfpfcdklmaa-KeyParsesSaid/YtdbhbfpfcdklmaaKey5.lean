/- The walk of key.readers (layer 3): a table of four functions, by first bytes; and what a look into it gives. No condition. -/
import Derived.Test.YtdbhbfpfcdklmaaKey4
import Derived.Maps.OwnSet
namespace Go.Proofs.Ytdbhbfpfcdklmaa
open Go.RowKit Go.Maps
set_option linter.unusedVariables false
set_option linter.unusedSimpArgs false

/-- how a function's value reads in the table -/
def fnE : Value → Option (DataW Unit × List MemPlace)
  | .func (.func n) a b => if a = #[] ∧ b = #[] then some (.lit (.int .i64 n), []) else none
  | .nilFunc => some (.lit (.int .i64 (-1)), [])
  | _ => none
theorem fnE_inv {v : Value} {n : Nat} {ps : List MemPlace} (h : fnE v = some (.lit (.int .i64 n), ps)) : v = .func (.func n) #[] #[] := by
  unfold fnE at h
  split at h
  · rename_i m a b
    split at h
    · rename_i hc
      obtain ⟨rfl, rfl⟩ := hc
      simp at h
      have hmn : m = n := Int.ofNat.inj h.1
      rw [hmn]
    · cases h
  · simp at h
  · cases h
abbrev tf (n : Nat) : DataW Unit := .lit (.int .i64 n)
abbrev tk (n : Int) : Lit := .int .u8 n
/-- the table -/
abbrev tab : DataW Unit := .map [(tk 1, tf 26), (tk 2, tf 27), (tk 3, tf 28), (tk 4, tf 29)]
theorem law8 : Keyed Try.prog 5 := int_keyed Try.underlying5
theorem zeroF (w : World) : (zeroValue 49).run Try.prog w = .ok .nilFunc w := by kernel_rfl
theorem key8 (c : UInt8) : keyOf Try.prog 5 (b8 c) = some (tk (c.toNat : Int)) := keyOf_int_mk Try.underlying5 (by
  have := c.toNat_lt
  simp [Lit.wf, IntKind.min, IntKind.max, IntKind.signed, IntKind.bits]; omega)

/-- a map literal's entry -/
theorem wpList_insert_own {H : Type} {P : Program} (w : World) {ops : Array Oper} {rest : List Oper} {o : Oper} {a : Act} {Q : Exit → Act → World → Prop}
    (hg : o.guard = none) (m x v : Operand) (t : TypeId) (hop : o.op = Op.insert t m x v)
    (k e : TypeId) (K : Keyed P k) (ht : P.underlying t = some (.map k e)) (R : Value → Option (DataW H × List MemPlace)) (b n : Nat) (D : DataW H)
    (hm : a.eval m = .map (some b)) (hown : w.ownsMap P k R b n D) (hn : n < maxLen) (key val : Value) (kl : Lit) (hx : a.eval x = key) (hv : a.eval v = val) (hkey : keyOf P k key = some kl)
    (d : DataW H) (ps : List MemPlace) (hval : R val = some (d, ps))
    (hK : ∀ w', w'.ownsMap P k R b (n + 1) (D.put kl d) → w.grownBy w' (some b) → wpList P ops Q rest (a.put o.dst undef) w') :
    wpList P ops Q (o :: rest) a w := by
  refine wpList_plain hg fun K' hK' => ?_
  obtain ⟨w', hrun, r1, r2⟩ := hown.update K ht hn hkey hval
  unfold Oper.wp
  simp [execOp, hop, hm, hx, hv, hrun, Result.andThen]
  exact hK' _ _ (hK w' r1 r2)

set_option maxRecDepth 100000 in
theorem readers_any (w : World) : Calls Try.prog 23 #[] w fun e w' => e = .returned (.map (some w.heap.size)) ∧ w'.ownsMap Try.prog 5 fnE w.heap.size 4 tab ∧ Below w.heap.size w w' := by
  have hmm := @run_makeMap Try.prog
  go_enter Try.func23, Try.ntmps23
  have hown0 := World.ownsMap_made w Try.prog 5 fnE
  go_wp2_with (first
    | (refine wpList_insert_own _ rfl _ _ _ 46 rfl 5 49 law8 Try.underlying46 fnE w.heap.size 3 _ rfl hown3 (by unfold maxLen; omega) _ _ (tk 4) rfl rfl (key8 4) (tf 29) [] rfl ?_; intro w4 hown4 hg4)
    | (refine wpList_insert_own _ rfl _ _ _ 46 rfl 5 49 law8 Try.underlying46 fnE w.heap.size 2 _ rfl hown2 (by unfold maxLen; omega) _ _ (tk 3) rfl rfl (key8 3) (tf 28) [] rfl ?_; intro w3 hown3 hg3)
    | (refine wpList_insert_own _ rfl _ _ _ 46 rfl 5 49 law8 Try.underlying46 fnE w.heap.size 1 _ rfl hown1 (by unfold maxLen; omega) _ _ (tk 2) rfl rfl (key8 2) (tf 27) [] rfl ?_; intro w2 hown2 hg2)
    | (refine wpList_insert_own _ rfl _ _ _ 46 rfl 5 49 law8 Try.underlying46 fnE w.heap.size 0 _ rfl hown0 (by unfold maxLen; omega) _ _ (tk 1) rfl rfl (key8 1) (tf 26) [] rfl ?_; intro w1 hown1 hg1))
  go_ret
  have hb : Below w.heap.size w w4 := (((((Below.refl _ w).alloc (Nat.le_refl _) _).grown hg1 (by simp) (fun k hk => by simp at hk; omega)).grown hg2 (by have := hg1.size; simp at this; omega) (fun k hk => by simp at hk; omega)).grown hg3 (by have := hg1.size; have := hg2.size; simp at *; omega) (fun k hk => by simp at hk; omega)).grown hg4 (by have := hg1.size; have := hg2.size; have := hg3.size; simp at *; omega) (fun k hk => by simp at hk; omega)
  exact ⟨rfl, hown4, hb⟩

/-- what a look into the table gives -/
theorem look_hit {c : UInt8} {n : Nat} (h : (c = 1 ∧ n = 26) ∨ (c = 2 ∧ n = 27) ∨ (c = 3 ∧ n = 28) ∨ (c = 4 ∧ n = 29)) :
    has tab (tk (c.toNat : Int)) = true ∧ DataW.atKey tab (tk (c.toNat : Int)) (.lit (.int .i64 (-1))) = tf n := by
  rcases h with ⟨rfl, rfl⟩ | ⟨rfl, rfl⟩ | ⟨rfl, rfl⟩ | ⟨rfl, rfl⟩ <;> exact ⟨by rfl, by rfl⟩
theorem look_miss : ∀ c : UInt8, c ≠ 1 → c ≠ 2 → c ≠ 3 → c ≠ 4 → has tab (tk (c.toNat : Int)) = false := by
  intro c h1 h2 h3 h4
  have g : ∀ n : Nat, n < 256 → n ≠ 1 → n ≠ 2 → n ≠ 3 → n ≠ 4 → has tab (tk (n : Int)) = false := by decide +kernel
  exact g c.toNat c.toNat_lt (fun e => h1 (UInt8.toNat_inj.1 e)) (fun e => h2 (UInt8.toNat_inj.1 e)) (fun e => h3 (UInt8.toNat_inj.1 e)) (fun e => h4 (UInt8.toNat_inj.1 e))

/-! ### kp, one step at a time -/
theorem rtext_len : ∀ (n : Nat) (r s : List UInt8), r.length ≤ n → (rtext s r).2.1.length ≤ r.length
  | 0, r, s, h => by
    have : r = [] := List.eq_nil_of_length_eq_zero (by omega)
    subst this; simp [rtext]
  | n + 1, [], s, h => by simp [rtext]
  | n + 1, c :: r, s, h => by
    by_cases hc : c = 0
    · subst hc
      match r with
      | [] => simp [rtext_z]
      | d :: r' =>
        rw [rtext_zz]
        split
        · simp; omega
        · split
          · have := rtext_len n r' (s ++ [0]) (by simp at h; omega)
            simp; omega
          · simp
    · rw [rtext_nz s r c hc]
      have := rtext_len n r (s ++ [c]) (by simp at h; omega)
      simp; omega
theorem rone_len (c : UInt8) (r : List UInt8) : (rone c r).2.1.length ≤ r.length := by
  unfold rone
  split
  · exact Nat.le_refl _
  split
  · match r with
    | [] => simp
    | d :: r' => simp only []; split <;> simp
  split
  · split
    · simp
    · simp
  split
  · split
    · exact rtext_len _ r [] (Nat.le_refl _)
    · simp
  · simp
theorem kpF_more : ∀ (n f : Nat) (acc : List V) (r : List UInt8), r.length ≤ n → r.length < f → kpF f acc r = kpF (r.length + 1) acc r
  | n, 0, acc, r, _, h => by omega
  | n, f + 1, acc, [], _, _ => rfl
  | 0, f + 1, acc, c :: r, h, _ => by simp at h
  | n + 1, f + 1, acc, c :: r, h, hf => by
    have hl := rone_len c r
    simp only [List.length_cons] at h hf
    unfold kpF
    split
    · rw [kpF_more n f _ _ (by omega) (by omega)]
      rw [List.length_cons, kpF_more n (r.length + 1) _ _ (by omega) (by omega)]
    · rfl
theorem kp_nil (acc : List V) : kp acc [] = (acc, 0) := rfl
theorem kp_cons (acc : List V) (c : UInt8) (r : List UInt8) : kp acc (c :: r) = if (rone c r).2.2 = 0 then kp (acc ++ [(rone c r).1]) (rone c r).2.1 else ([], (rone c r).2.2) := by
  have hl := rone_len c r
  unfold kp
  conv => lhs; unfold kpF
  split
  · rw [List.length_cons, kpF_more _ (r.length + 1) _ _ (Nat.le_refl _) (by omega)]
  · rfl

/-! ### Parse -/
/-- What a call that answers values and an error leaves. -/
def RetVE (w : World) (x : List V × Nat) (e : Ending) (w' : World) : Prop :=
  ∃ A c, e = .returned (.tuple #[.slice A x.1.length c, .int .i64 (x.2 : Int)]) ∧ w'.ownsRow w.heap.size 39 3 (.slice A x.1.length c) x.1.length (vcells x.1) ∧ Below w.heap.size w w'
theorem retVE_err {w w' : World} {r : List V × Nat} {x : Nat} (h : r = ([], x)) (hb : Below w.heap.size w w') : RetVE w r (.returned (.tuple #[.slice none 0 0, .int .i64 (x : Int)])) w' := by
  subst h
  exact ⟨none, 0, rfl, World.ownsRow_nil _ _ _ _, hb⟩
theorem retVE_ok {w w' : World} {r : List V × Nat} {l : List V} {v : Value} (h : r = (l, 0)) (ho : w'.ownsRow w.heap.size 39 3 v l.length (vcells l)) (hb : Below w.heap.size w w') : RetVE w r (.returned (.tuple #[v, .int .i64 0])) w' := by
  subst h
  obtain ⟨A, c, rfl, _⟩ := own_form ho
  exact ⟨A, c, rfl, ho, hb⟩
/-- the reader of a first byte -/
def rd_no (c : UInt8) : Nat := if c = 1 then 26 else if c = 2 then 27 else if c = 3 then 28 else 29
theorem read_any (d : UInt8) (hd : d = 1 ∨ d = 2 ∨ d = 3 ∨ d = 4) (B : Nat) (A : Option Addr) (c : Nat) (b : List UInt8) (w : World) (hr : Rd w B A (cells b)) (hc : b.length ≤ c) (hB : B ≤ w.heap.size) (hlen : b.length ≤ 4294967296) :
    Calls Try.prog (rd_no d) #[.slice A b.length c] w (RetV w B (rone d b)) := by
  rcases hd with rfl | rfl | rfl | rfl
  · exact readNull_any B A c b w hr hc hB
  · exact readTruth_any B A c b w hr hc hB
  · exact readNumber_any B A c b w hr hc hB
  · exact readText_any B A c b w hr hc hB hlen
theorem rone_bad (d : UInt8) (r : List UInt8) (h1 : d ≠ 1) (h2 : d ≠ 2) (h3 : d ≠ 3) (h4 : d ≠ 4) : rone d r = (null, [], 21) := by
  unfold rone; rw [if_neg h1, if_neg h2, if_neg h3, if_neg h4]
theorem look_any (d : UInt8) (hd : d = 1 ∨ d = 2 ∨ d = 3 ∨ d = 4) : has tab (tk (d.toNat : Int)) = true ∧ DataW.atKey tab (tk (d.toNat : Int)) (.lit (.int .i64 (-1))) = tf (rd_no d) := by
  rcases hd with rfl | rfl | rfl | rfl <;> exact ⟨by rfl, by rfl⟩

theorem lt_of_map {H : Type} {P : Program} {k : TypeId} {R : Value → Option (DataW H × List MemPlace)} {w : World} {b n : Nat} {D : DataW H} (h : w.ownsMap P k R b n D) : b < w.heap.size := by
  obtain ⟨es, clock, h1, _⟩ := h
  exact (Array.getElem?_eq_some_iff.1 h1).1
theorem map_bel {H : Type} {P : Program} {k : TypeId} {R : Value → Option (DataW H × List MemPlace)} {w w' : World} {b n B : Nat} {D : DataW H} (h : w.ownsMap P k R b n D) (hb : Below B w w') (hB : b < B) : w'.ownsMap P k R b n D := by
  obtain ⟨es, clock, h1, rest⟩ := h
  exact ⟨es, clock, (hb.block b hB).trans h1, rest⟩
theorem cv_three {w : World} {T : TypeId} {k : Nat} (v : V) (hk : k = w.heap.size) : Rd (w.alloc (.cells #[.int .u8 (v.k : Int), .int .i64 v.n, txt v.t] T)) (k + 1) (some ⟨k, 0, none⟩) (cv v) :=
  rd_arr w (cv v) T k (k + 1) hk (by omega)
theorem enters (d : UInt8) (hd : d = 1 ∨ d = 2 ∨ d = 3 ∨ d = 4) (args : Array Value) (w : World) : (callFunc (rd_no d) args).run Try.prog w = .ok (.enter (rd_no d) args) w := by
  rcases hd with rfl | rfl | rfl | rfl <;> kernel_rfl

set_option maxHeartbeats 2000000 in
set_option maxRecDepth 100000 in
theorem Parse_any (B : Nat) (A : Option Addr) (c : Nat) (b : List UInt8) (w : World) (hr : Rd w B A (cells b)) (hc : b.length ≤ c) (hB : B ≤ w.heap.size) (hlen : b.length ≤ 4294967296) :
    Calls Try.prog 16 #[.slice A b.length c] w (RetVE w (kparse b)) := by
  obtain ⟨by_, HEL, hby⟩ := El_val
  go_enter Try.func16, Try.ntmps16
  go_wp2_with fail
  refine (readers_any w).mono ?_; rintro e w1 ⟨rfl, hmap, hb1⟩
  go_wp2_with fail
  go_loopw [0, 4] (fun v0 v4 wr => ∃ (acc : List V) (r : List UInt8) (A0 : Option Addr) (c0 : Nat), v0 = .slice A0 r.length c0 ∧ r.length ≤ c0 ∧ Rd wr B A0 (cells r) ∧ wr.ownsRow w.heap.size 39 3 v4 acc.length (vcells acc) ∧ v4.ownBlock ≠ some w.heap.size ∧ acc.length + r.length ≤ b.length ∧ kparse b = kp acc r ∧
      wr.ownsMap Try.prog 5 fnE w.heap.size 4 tab ∧ Below w.heap.size w wr) (fun v0 _ _ => lenOf v0)
  case atStart => exact ⟨[], b, A, c, rfl, hc, hr.below (hb1.mono hB), World.ownsRow_nil _ _ _ _, by simp [Value.ownBlock], by simp, rfl, hmap, hb1⟩
  case round =>
    obtain ⟨acc, r, A0, c0, rfl, hc0, hrd, hown, hnb, hsl, hkp, hmp, hbel⟩ := hrel
    obtain ⟨A4, c4, rfl, hc4⟩ := own_form hown
    have HKP := Lib.hid hkp
    have hsz := hbel.size
    clear hkp
    rcases r with _ | ⟨d, r⟩
    · have he := HKP.out.trans (kp_nil acc)
      have HE := Lib.hid he
      clear he hrd
      go_wp2_with fail
      go_ret2
      exact retVE_ok HE.out hown hbel
    · obtain ⟨bb, oo, rfl, hbb, hcell⟩ := rd_head hrd
      obtain ⟨A', c', hsl1, hrd', hc'⟩ := from_any c0 1 (by simp) hc0 hrd
      rw [List.drop_one, List.tail_cons] at hsl1 hrd' hc'
      have hsl2 := fun w' => hsl1 w' 1 rfl
      have hll : acc.length + r.length + 1 ≤ b.length := by simp at hsl; omega
      obtain ⟨n, hnn⟩ : ∃ n, n = (d :: r).length := ⟨_, rfl⟩
      have hnr : r.length + 1 ≤ n := by rw [hnn]; simp
      rw [← hnn] at hsl2 hc0 ⊢
      have hn1 : (0 : Int) < (n : Int) := by omega
      have hn2 : 0 < n := by omega
      have hd : d.toNat < 256 := d.toNat_lt
      have HKC := Lib.hid (HKP.out.trans (kp_cons acc d r))
      clear hsl hsl1 hnn HKP
      by_cases hdk : d = 1 ∨ d = 2 ∨ d = 3 ∨ d = 4
      case neg =>
        have hro : rone d r = (null, [], 21) := rone_bad d r (fun h => hdk (.inl h)) (fun h => hdk (.inr (.inl h))) (fun h => hdk (.inr (.inr (.inl h)))) (fun h => hdk (.inr (.inr (.inr h))))
        have hhas := look_miss d (fun h => hdk (.inl h)) (fun h => hdk (.inr (.inl h))) (fun h => hdk (.inr (.inr (.inl h)))) (fun h => hdk (.inr (.inr (.inr h))))
        have he : kparse b = ([], 21) := by rw [HKC.out, hro]; rfl
        have HE := Lib.hid he
        clear he hro hdk
        go_wp2_with (at_lookup; refine wpList_lookup_own_ok _ rfl _ _ 46 rfl 5 49 law8 Try.underlying46 fnE (zeroF _) (.lit (.int .i64 (-1))) [] rfl w.heap.size 4 tab rfl hmp _ _ rfl (key8 d) ?_; intro v ps hv; rw [hhas])
        go_ret2
        exact retVE_err HE.out hbel
      obtain ⟨hhas, hat⟩ := look_any d hdk
      obtain ⟨f, hf⟩ : ∃ f, f = rd_no d := ⟨_, rfl⟩
      have G1 := fun (A : Option Addr) (c : Nat) (w : World) (hr : Rd w B A (cells r)) (hc : r.length ≤ c) (hB : B ≤ w.heap.size) => read_any d hdk B A c r w hr hc hB (by omega)
      have hent := enters d hdk
      rw [← hf] at hat G1 hent
      have HR := Lib.hid G1
      have HAT := Lib.hid hat
      clear G1 hat hf hdk
      have HRL := Lib.hid (rone_len d r)
      generalize rone d r = x at *
      obtain ⟨v, r2, er⟩ := x
      dsimp only at HKC HRL
      go_wp2_with (at_lookup; refine wpList_lookup_own_ok _ rfl _ _ 46 rfl 5 49 law8 Try.underlying46 fnE (zeroF _) (.lit (.int .i64 (-1))) [] rfl w.heap.size 4 tab rfl hmp _ _ rfl (key8 d) ?_; intro vf ps hv; rw [hhas]; obtain rfl := fnE_inv (hv.trans (by rw [HAT.out])))
      refine (HR.out A' c' wr hrd' hc' (by omega)).mono ?_; rintro e w2 ⟨A2, c2, rfl, hrd2, hc2, hb2⟩
      dsimp only at hrd2 hc2 ⊢
      have hbel2 : Below w.heap.size w w2 := hbel.trans (hb2.mono hbel.size)
      have hown2 := own_bel hown hb2
      have hmp2 := map_bel hmp hb2 (lt_of_map hmp)
      have hsz2 := hb2.size
      have hrl := HRL.out
      by_cases her : er = 0
      case neg =>
        have he : kparse b = ([], er) := HKC.out.trans (if_neg her)
        have HE := Lib.hid he
        have herI : ((er : Int) != 0) = true := by simpa using her
        clear he her
        go_wp2_with fail
        go_ret2
        exact retVE_err HE.out (hbel2.alloc hbel2.size _)
      subst her
      have HK2 := Lib.hid (HKC.out.trans (if_pos rfl))
      obtain ⟨vk, vn, vt⟩ := v
      have hmb : w.heap.size < wr.heap.size := lt_of_map hmp
      have hnbB : ∀ b', b' < B → (Value.slice A4 acc.length c4).ownBlock ≠ some b' := fun b' hb' e => by have := (hown.lt b' e).1; omega
      clear hown hmp hrd hrd' hsl2 hcell HKC
      go_wp2_with (at_builtin; refine wpList_app HEL rfl _ _ rfl ((hown2.alloc _).alloc _) rfl rfl (cv_three (⟨vk, vn, vt⟩ : V) (by simp)) rfl (cv_one _) (by unfold maxLen; omega) (by have : (acc.length + 1) * by_ ≤ 4294967297 * 64 := Nat.mul_le_mul (by omega) hby; omega) (by simp; omega) ?_; intro v4 w4 hown4 hg4 ho4)
      go_roundw
      case rel =>
        have hw4 : Below w.heap.size w w4 := ((hbel2.alloc hbel2.size _).alloc (by simp; omega) _).trans (own_below ((hown2.alloc _).alloc _) hg4 (by simp; omega))
        refine ⟨acc ++ [⟨vk, vn, vt⟩], r2, A2, c2, rfl, hc2, ?_, ?_, nb_app ho4 hnb (by simp; omega), by simp; omega, HK2.out, ?_, hw4⟩
        · exact ((hrd2.alloc (by omega) _).alloc (by simp; omega) _).keep fun b' o' hb' => World.cell?_of_block (hg4.block b' (by simp; omega) (fun e => hnbB b' hb' e.symm))
        · rw [vcells_snoc, List.length_append, List.length_singleton]; exact hown4
        · exact (((hmp2.alloc _).alloc _)).kept hg4 (fun e => hnb e.symm)
      case measure => simp [lenOf]; omega

set_option maxRecDepth 100000 in
theorem After_any (B : Nat) (A : Option Addr) (c : Nat) (b : List UInt8) (w : World) (hr : Rd w B A (cells b)) (hB : B ≤ w.heap.size) (hlen : b.length ≤ 4294967296) :
    Calls Try.prog 18 #[.slice A b.length c] w (RetB w (b ++ [255])) := by
  go_enter Try.func18, Try.ntmps18
  go_wp2_with (first
    | (at_builtin; refine wpList_app El_u8 rfl _ _ rfl (hown1.alloc _) rfl rfl (by exact rd_one _ _ _ _ _ rfl (Nat.lt_add_one _)) rfl one_int (by unfold maxLen; omega) (by omega) (by have := hb1.size; simp; omega) ?_; intro v2 w2 hown2 hg2 _; have hb2 : Below w.heap.size w w2 := (hb1.alloc hb1.size _).trans (own_below (hown1.alloc _) hg2 (by have := hb1.size; simp; omega)))
    | (at_builtin; refine wpList_app El_u8 rfl _ _ rfl (World.ownsRow_nil w w.heap.size 5 1) rfl rfl hr (by simp) (cells_one b) (by unfold maxLen; omega) (by omega) (Nat.le_refl _) ?_; intro v1 w1 hown1 hg1 _; have hb1 := own_below (World.ownsRow_nil w w.heap.size 5 1) hg1 (Nat.le_refl _); rw [Nat.zero_add, List.nil_append] at hown1))
  go_ret
  refine retB_of (l := b ++ [255]) ?_ hb2
  rw [cells_append, List.length_append, List.length_singleton]; exact hown2
end Go.Proofs.Ytdbhbfpfcdklmaa

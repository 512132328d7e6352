/- Joined texts: see the remark ahead of each part. No condition but those that the parts name. -/
import Derived.Test.YthkpgjcnnfdibaaRwa
import Derived.Test.YthkpgjcnnfdibaaKys
/-! The walk of row.Put (layer 4): it answers rput, in new memory. For values whose texts are short, and few of them. -/
namespace Go.Proofs.Ythkpgjcnnfdibaa.Rw
open Go.RowKit Go.Maps
set_option linter.unusedVariables false
set_option linter.unusedSimpArgs false

def put_no (k : Nat) : Nat := if k = 1 then 72 else if k = 2 then 74 else 79
def get_no (k : Nat) : Nat := if k = 1 then 73 else if k = 2 then 76 else 80
theorem key8N (k : Nat) (h : k < 256) : keyOf Try.prog 5 (.int .u8 (k : Int)) = some (tk (k : Int)) := keyOf_int_mk Try.underlying5 (by
  simp [Lit.wf, IntKind.min, IntKind.max, IntKind.signed, IntKind.bits]; omega)
theorem look_way (k : Nat) (h : k = 1 ∨ k = 2 ∨ k = 3) : DataW.atKey wtab (tk (k : Int)) zway = wd (put_no k) (get_no k) := by
  rcases h with rfl | rfl | rfl <;> rfl
theorem put_enters (k : Nat) (h : k = 1 ∨ k = 2 ∨ k = 3) (args : Array Value) (w : World) : (callFunc (put_no k) args).run Try.prog w = .ok (.enter (put_no k) args) w := by
  rcases h with rfl | rfl | rfl <;> kernel_rfl
theorem get_enters (k : Nat) (h : k = 1 ∨ k = 2 ∨ k = 3) (args : Array Value) (w : World) : (callFunc (get_no k) args).run Try.prog w = .ok (.enter (get_no k) args) w := by
  rcases h with rfl | rfl | rfl <;> kernel_rfl
theorem mayB_k {v : V} (h : mayB v = true) : (v.k = 0 ∧ v = null) ∨ (v.k = 1 ∧ (v.n = 0 ∨ v.n = 1) ∧ v.t = []) ∨ (v.k = 2 ∧ v.t = []) ∨ (v.k = 3 ∧ v.n = 0) := by
  obtain ⟨k, n, t⟩ := v
  rw [mayB_cases] at h
  dsimp only at h ⊢
  by_cases h0 : k = 0
  · rw [if_pos h0] at h
    simp at h
    obtain ⟨rfl, rfl⟩ := h
    subst h0
    exact .inl ⟨rfl, rfl⟩
  rw [if_neg h0] at h
  by_cases h1 : k = 1
  · rw [if_pos h1] at h
    simp at h
    exact .inr (.inl ⟨h1, h.1, h.2⟩)
  rw [if_neg h1] at h
  by_cases h2 : k = 2
  · rw [if_pos h2] at h
    simp at h
    exact .inr (.inr (.inl ⟨h2, h⟩))
  rw [if_neg h2] at h
  by_cases h3 : k = 3
  · rw [if_pos h3] at h
    simp at h
    exact .inr (.inr (.inr ⟨h3, h⟩))
  rw [if_neg h3] at h
  cases h
theorem put_any (v : V) (hm : mayB v = true) (h0 : v.k ≠ 0) (hn : i64r v.n) (ht : v.t.length ≤ 4294967296)
    (base : Nat) (A : Option Addr) (c : Nat) (b : List UInt8) (w : World) (hown : w.ownsRow base 5 1 (.slice A b.length c) b.length (cells b)) (hbase : base ≤ w.heap.size) (hlen : b.length ≤ 4294967296) :
    Calls Try.prog (put_no v.k) #[.slice A b.length c, va v] w (RetG w base (.slice A b.length c) (b ++ vone v)) := by
  obtain ⟨k, n, t⟩ := v
  dsimp only at h0 hn ht ⊢
  rcases mayB_k hm with ⟨h, _⟩ | ⟨h1, hn1, h2⟩ | ⟨h1, h2⟩ | ⟨h1, h2⟩
  · exact absurd h h0
  · dsimp only at h1 hn1 h2
    subst h1
    rcases hn1 with rfl | rfl
    · exact put1_any base A c b w hown hbase hlen 0 t (.inl rfl)
    · exact put1_any base A c b w hown hbase hlen 1 t (.inr rfl)
  · dsimp only at h1
    subst h1
    exact put2_any base A c b w hown hbase hlen n t hn
  · dsimp only at h1
    subst h1
    exact put3_any base A c b w hown hbase hlen n t ht
theorem field_put (a b : Nat) (w : World) : (Instr.field 79 (wv a b) 0).run Try.prog w = .ok (.func (.func a) #[] #[]) w := by kernel_rfl
theorem field_get (a b : Nat) (w : World) : (Instr.field 79 (wv a b) 1).run Try.prog w = .ok (.func (.func b) #[] #[]) w := by kernel_rfl
theorem own_some {w : World} {base n : Nat} {v : Value} {l : List UInt8} (h : w.ownsRow base 5 1 v n (cells l)) (hn : 0 < n) : ∃ g cap, v = .slice (some ⟨g, 0, none⟩) n cap ∧ base ≤ g ∧ g < w.heap.size := by
  rcases h.2 with ⟨hv, hz⟩ | ⟨g, cap, cur, hv, hb, hh, _⟩
  · omega
  · exact ⟨g, cap, hv, hb, (Array.getElem?_eq_some_iff.1 hh).1⟩
theorem map_same {H : Type} {P : Program} {k : TypeId} {R : Value → Option (DataW H × List MemPlace)} {w w' : World} {b n : Nat} {D : DataW H} (h : w.ownsMap P k R b n D) (hb : w'.heap[b]? = w.heap[b]?) : w'.ownsMap P k R b n D := by
  obtain ⟨es, clock, h1, rest⟩ := h
  exact ⟨es, clock, hb.trans h1, rest⟩

theorem shl8 (r : Nat) (hr : r < 8) (w : World) : (Op.shift .shl .u8 1 .i64 (r : Int)).run Try.prog w = .ok (.int .u8 ((2 ^ r : Nat) : Int)) w := by
  rcases (by omega : r = 0 ∨ r = 1 ∨ r = 2 ∨ r = 3 ∨ r = 4 ∨ r = 5 ∨ r = 6 ∨ r = 7) with rfl | rfl | rfl | rfl | rfl | rfl | rfl | rfl <;> kernel_rfl
theorem or8 (x y : Nat) (hx : x < 256) (hy : y < 256) : bits .or .u8 (x : Int) (y : Int) = ((x ||| y : Nat) : Int) := by
  rw [u8_or _ _ (by omega) (by omega) (by omega) (by omega)]
  simp
set_option maxHeartbeats 4000000 in
set_option maxRecDepth 100000 in
theorem Put_row (B : Nat) (A A' : Option Addr) (c c' : Nat) (T : List UInt8) (l : List V) (w : World) (hT : Rd w B A (cells T)) (hl : Rd w B A' (vcells l)) (hB : B ≤ w.heap.size)
    (hTl : T.length ≤ 4294967296) (hll : l.length ≤ 4294967296) (hok : ∀ v ∈ l, v.k < 256 ∧ i64r v.n ∧ v.t.length ≤ 1000000) (hlen : (rbytes l).length ≤ 4294967296) :
    Calls Try.prog 26 #[.slice A T.length c, .slice A' l.length c'] w (RetBE w (rput T l)) := by
  have K0 := fun w h => known_any B A c T w h (by unfold maxLen; omega)
  obtain ⟨kn, hkn⟩ : ∃ x, x = knownT T := ⟨_, rfl⟩
  rw [← hkn] at K0
  have HK := Lib.hid K0
  have HKN := Lib.hid hkn
  clear K0 hkn
  cases kn
  case false =>
    have he : rput T l = ([], 1) := by unfold rput; rw [← HKN.out]; rfl
    have HE := Lib.hid he
    clear he
    go_enter Try.func26, Try.ntmps26
    go_wp2_with fail
    refine (HK.out _ hT).mono ?_; rintro e w1 ⟨rfl, rfl⟩
    go_wp2_with fail
    go_ret2
    exact retBE_err HE.out (Below.refl _ _)
  by_cases hlm : l.length = T.length
  case neg =>
    have he : rput T l = ([], 1) := by unfold rput rowok; rw [← HKN.out]; simp [hlm]
    have HE := Lib.hid he
    have hI : ((l.length : Int) != (T.length : Int)) = true := by simp; omega
    clear he hlm
    go_enter Try.func26, Try.ntmps26
    go_wp2_with fail
    refine (HK.out _ hT).mono ?_; rintro e w1 ⟨rfl, rfl⟩
    go_wp2_with fail
    go_ret2
    exact retBE_err HE.out (Below.refl _ _)
  have hrp : rput T l = if mays T l then (rbytes l, 0) else ([], 1) := by unfold rput rowok; rw [← HKN.out]; simp [hlm]
  have HRP := Lib.hid hrp
  obtain ⟨n, hn⟩ : ∃ n, n = l.length := ⟨_, rfl⟩
  have hn2 : T.length = n := by omega
  have h8l := size8_le l.length
  rw [← hn] at h8l
  rw [← hn, hn2]
  rw [hn2] at HK
  obtain ⟨m, hm⟩ : ∃ m, m = size8 n := ⟨_, rfl⟩
  have hmn : m ≤ n + 7 := by rw [hm]; unfold size8; omega
  have hmI : ((n : Int) + 7) / 8 = (m : Int) := by rw [hm]; unfold size8; omega
  have hm8 : n ≤ 8 * m := by omega
  have HN := Lib.hid hn
  have HN2 := Lib.hid hn2
  have HM := Lib.hid hm
  rw [← hn] at hll
  clear hlm hn hn2 hm hrp HKN hTl h8l
  obtain ⟨i0, hi, hz0, hz1, hz2⟩ := info_parts Try.infoU8
  obtain ⟨w1, hmk, hown, hg⟩ := run_make_full (P := Try.prog) w w.heap.size 22 5 i0 (.int .u8 0) 1 Try.underlying22 hi hz0 hz1 .i64 .i64 m (by rw [hz2]; omega) (by unfold maxLen; omega) (Nat.le_refl _)
  have hmk2 : (Instr.makeSlice 22 (.int .i64 (m : Int)) (.int .i64 (m : Int))).run Try.prog w = .ok (.slice (some ⟨w.heap.size, 0, none⟩) m m) w1 := hmk
  have hown1 : w1.ownsRow w.heap.size 5 1 (.slice (some ⟨w.heap.size, 0, none⟩) m m) m (List.replicate m (.int .u8 0)) := by
    have h := hown
    rwa [show (Value.int .u8 0).cells = #[.int .u8 0] from rfl, toList_madeCells_one, Nat.mul_one] at h
  have hb1 : Below w.heap.size w w1 := (Below.refl _ w).grown hg (Nat.le_refl _) (by simp)
  clear hmk hown hi hz0 hz1 hz2 hg
  go_enter Try.func26, Try.ntmps26
  go_wp2_with fail
  refine (HK.out _ hT).mono ?_; rintro e w0 ⟨rfl, rfl⟩
  go_wp2_with fail
  refine (ways_any _).mono ?_; rintro e w2 ⟨rfl, hmap, hb2⟩
  have hown2 := own_bel hown1 hb2
  have hb02 : Below w.heap.size w w2 := hb1.trans (hb2.mono hb1.size)
  obtain ⟨mb, hmb⟩ : ∃ mb, mb = w1.heap.size := ⟨_, rfl⟩
  rw [← hmb] at hmap ⊢
  have hmbw : w.heap.size ≤ mb := by rw [hmb]; exact hb1.size
  clear hmk2 hb2 hown1 hmb
  have hown3 : w2.ownsRow w.heap.size 5 1 (.slice (some ⟨w.heap.size, 0, none⟩) m m) (bsAt l 0).length (cells (bsAt l 0)) := by
    have e : bsAt l 0 = List.replicate m 0 := by rw [bsAt_0, ← HN.out, HM.out]
    have e2 : cells (bsAt l 0) = List.replicate m (.int .u8 0) := by rw [e]; simp [cells]
    rw [e2, e, List.length_replicate]; exact hown2
  have hlen2 : ∀ k, (bsAt l k).length ≤ 4294967296 := fun k => by
    have h1 := flatv_le l k
    have h2 : (rbytes l).length = size8 l.length + (l.flatMap vone).length := by unfold rbytes; rw [List.length_append, layP_length]
    rw [bsAt_len]; omega
  have hbspos : ∀ k, m ≤ (bsAt l k).length := fun k => by rw [bsAt_len, ← HN.out, ← HM.out]; omega
  have HL2 := Lib.hid hlen2
  have HPOS := Lib.hid hbspos
  clear hown2 hlen2 hbspos
  go_wp2_with fail
  go_loopw [6, 28] (fun v6 v28 wr => ∃ k : Nat, k ≤ n ∧ v28 = .int .i64 k ∧ maysTo T l k ∧ wr.ownsRow w.heap.size 5 1 v6 (bsAt l k).length (cells (bsAt l k)) ∧ wr.ownsMap Try.prog 5 wayE mb 3 wtab ∧ Below w.heap.size w wr) (fun _ v28 _ => n - (intOf v28).toNat)
  case atStart => exact ⟨0, by omega, rfl, maysTo_0 _ _, hown3, hmap, hb02⟩
  case round =>
    clear hown3 hmap hb02 hb1
    obtain ⟨k, hk, rfl, hto, hown, hmap, hbel⟩ := hrel
    have HTO := Lib.hid hto
    clear hto
    by_cases hlt : k < n
    case neg =>
      have hkn : k = n := by omega
      have he : rput T l = (bsAt l k, 0) := by
        rw [HRP.out, if_pos (maysTo_all HTO.out (by rw [← HN.out]; omega)), hkn, HN.out, bsAt_end]
      have HE := Lib.hid he
      subst hkn
      clear he
      go_wp2_with fail
      go_ret2
      exact retBE_ok HE.out hown hbel
    obtain ⟨bs, hbs⟩ : ∃ bs, bs = bsAt l k := ⟨_, rfl⟩
    rw [← hbs] at hown
    have hpos := HPOS.out k
    have hbl := HL2.out k
    rw [← hbs] at hpos hbl
    have HBS := Lib.hid hbs
    clear hbs
    obtain ⟨g, cap, rfl, hg1, hg2⟩ := own_some hown (by omega)
    obtain ⟨v, hv⟩ : ∃ v, l[k]? = some v := ⟨_, List.getElem?_eq_getElem (by rw [← HN.out]; exact hlt)⟩
    obtain ⟨t, ht⟩ : ∃ t, T[k]? = some t := ⟨_, List.getElem?_eq_getElem (by rw [HN2.out]; exact hlt)⟩
    obtain ⟨gb, go, rfl, hgb, q0, q1, q2⟩ := rd_val hl hv
    obtain ⟨hb, ho, rfl, hhb, hc⟩ := rd_cell hT (show k < T.length by rw [HN2.out]; exact hlt)
    have p0 := hc k (by rw [HN2.out]; exact hlt)
    rw [show T[k]'(by rw [HN2.out]; exact hlt) = t by rw [List.getElem?_eq_getElem (by rw [HN2.out]; exact hlt)] at ht; exact Option.some.inj ht] at p0
    have r0 := (hbel.cell (p := ⟨gb, go + k * 3, none⟩) (by show gb < _; omega)).trans q0
    have r1 := (hbel.cell (p := ⟨gb, go + k * 3 + 1, none⟩) (by show gb < _; omega)).trans q1
    have r2 := (hbel.cell (p := ⟨gb, go + k * 3 + 2, none⟩) (by show gb < _; omega)).trans q2
    have F2 : ∀ w', Below w.heap.size w w' → w'.cell? ⟨hb, ho + k, none⟩ = some (.int .u8 (t.toNat : Int)) := fun w' hbw => (hbw.cell (p := ⟨hb, ho + k, none⟩) (by show hb < _; omega)).trans p0
    have hkI : (k : Int) < (n : Int) := by omega
    have HV := Lib.hid hv
    have HT := Lib.hid ht
    obtain ⟨hvk, hvn, hvt⟩ := hok v (List.mem_of_getElem? hv)
    have M0 := fun w => rmay_any t v hvk hvn hvt w
    obtain ⟨my, hmy⟩ : ∃ x, x = rmay t v := ⟨_, rfl⟩
    rw [← hmy] at M0
    have HMY := Lib.hid hmy
    have HM0 := Lib.hid M0
    clear q0 q1 q2 p0 hc hv ht M0 hmy
    go_wp2_with fail
    obtain ⟨w3, hw3⟩ : ∃ w3, w3 = wr.alloc (.cells #[.int .u8 (v.k : Int), .int .i64 v.n, txt v.t] 46) := ⟨_, rfl⟩
    rw [← hw3]
    have hz3 : w3.heap.size = wr.heap.size + 1 := by rw [hw3]; simp
    have hb3 : Below w.heap.size w w3 := by rw [hw3]; exact hbel.alloc hbel.size _
    obtain ⟨c0, c1, c2⟩ := cv_block wr (.int .u8 (v.k : Int)) (.int .i64 v.n) (txt v.t) 46
    rw [← hw3] at c0 c1 c2
    have hown3 : w3.ownsRow w.heap.size 5 1 (.slice (some ⟨g, 0, none⟩) bs.length cap) bs.length (cells bs) := by rw [hw3]; exact hown.alloc _
    have hmap3 : w3.ownsMap Try.prog 5 wayE mb 3 wtab := by rw [hw3]; exact hmap.alloc _
    have hsr := hbel.size
    have D3 : ∀ w', Below w3.heap.size w3 w' → w'.cell? ⟨wr.heap.size, 0, none⟩ = some (.int .u8 (v.k : Int)) ∧ w'.cell? ⟨wr.heap.size, 1, none⟩ = some (.int .i64 v.n) ∧ w'.cell? ⟨wr.heap.size, 2, none⟩ = some (txt v.t) := fun w' h => ⟨cell_be c0 h (by show wr.heap.size < _; omega), cell_be c1 h (by show wr.heap.size < _; omega), cell_be c2 h (by show wr.heap.size < _; omega)⟩
    clear r0 r1 r2 c0 c1 c2 hw3 hown hmap
    refine ah_start 7 (fun w' => Below w3.heap.size w3 w') rfl (by kernel_rfl) (Below.refl _ _).drew ?_ ; intro hS
    (refine mv_val 0 (v := ?_) rfl (by kernel_rfl) (by kernel_rfl) (by kernel_rfl) (fun _ _ _ h => h) (by rfl) hS ?_ ?_; rotate_left; (focus (intro w hSw; (try dsimp only at hSw); (have f1 := (D3 w hSw).1; have f2 := (D3 w hSw).2.1; have f3 := (D3 w hSw).2.2; have f4 := F2 w (hb3.trans (hSw.mono hb3.size)); have f7 := hlt); go_simp; first | done | with_reducible rfl)); simp only [Act.put, List.setIfInBounds_toArray, List.set_cons_zero, List.set_cons_succ])
    (refine mv_val 1 (v := ?_) rfl (by kernel_rfl) (by kernel_rfl) (by kernel_rfl) (fun _ _ _ h => h) (by rfl) hS ?_ ?_; rotate_left; (focus (intro w hSw; (try dsimp only at hSw); (have f1 := (D3 w hSw).1; have f2 := (D3 w hSw).2.1; have f3 := (D3 w hSw).2.2; have f4 := F2 w (hb3.trans (hSw.mono hb3.size)); have f7 := hlt); go_simp; first | done | with_reducible rfl)); simp only [Act.put, List.setIfInBounds_toArray, List.set_cons_zero, List.set_cons_succ])
    (refine mv_val 2 (v := ?_) rfl (by kernel_rfl) (by kernel_rfl) (by kernel_rfl) (fun _ _ _ h => h) (by rfl) hS ?_ ?_; rotate_left; (focus (intro w hSw; (try dsimp only at hSw); (have f1 := (D3 w hSw).1; have f2 := (D3 w hSw).2.1; have f3 := (D3 w hSw).2.2; have f4 := F2 w (hb3.trans (hSw.mono hb3.size)); have f7 := hlt); go_simp; first | done | with_reducible rfl)); simp only [Act.put, List.setIfInBounds_toArray, List.set_cons_zero, List.set_cons_succ])
    (refine mv_val 3 (v := ?_) rfl (by kernel_rfl) (by kernel_rfl) (by kernel_rfl) (fun _ _ _ h => h) (by rfl) hS ?_ ?_; rotate_left; (focus (intro w hSw; (try dsimp only at hSw); (have f1 := (D3 w hSw).1; have f2 := (D3 w hSw).2.1; have f3 := (D3 w hSw).2.2; have f4 := F2 w (hb3.trans (hSw.mono hb3.size)); have f7 := hlt); go_simp; first | done | with_reducible rfl)); simp only [Act.put, List.setIfInBounds_toArray, List.set_cons_zero, List.set_cons_succ])
    (refine mv_val 4 (v := ?_) rfl (by kernel_rfl) (by kernel_rfl) (by kernel_rfl) (fun _ _ _ h => h) (by rfl) hS ?_ ?_; rotate_left; (focus (intro w hSw; (try dsimp only at hSw); (have f1 := (D3 w hSw).1; have f2 := (D3 w hSw).2.1; have f3 := (D3 w hSw).2.2; have f4 := F2 w (hb3.trans (hSw.mono hb3.size)); have f7 := hlt); go_simp; first | done | with_reducible rfl)); simp only [Act.put, List.setIfInBounds_toArray, List.set_cons_zero, List.set_cons_succ])
    (refine mv_call 5 (f := ?_) (args := ?_) rfl (by kernel_rfl) (by rfl) ?_ ?_; rotate_left 2; (focus (go_simp; first | done | with_reducible rfl | (refine ⟨?_, ?_⟩ <;> with_reducible rfl))))
    refine (HM0.out _).mono ?_; rintro e w4 ⟨rfl, hb4⟩
    have hS4 : Below w3.heap.size w3 w4 := hS.trans (hb4.mono hS.size)
    refine ⟨_, rfl, hS4, ?_⟩
    replace hS := hS4
    simp only [Act.put, List.setIfInBounds_toArray, List.set_cons_zero, List.set_cons_succ]
    (refine mv_val 6 (v := ?_) rfl (by kernel_rfl) (by kernel_rfl) (by kernel_rfl) (fun _ _ _ h => h) (by rfl) hS ?_ ?_; rotate_left; (focus (intro w hSw; (try dsimp only at hSw); (have f1 := (D3 w hSw).1; have f2 := (D3 w hSw).2.1; have f3 := (D3 w hSw).2.2; have f4 := F2 w (hb3.trans (hSw.mono hb3.size)); have f7 := hlt); go_simp; first | done | with_reducible rfl)); simp only [Act.put, List.setIfInBounds_toArray, List.set_cons_zero, List.set_cons_succ])
    refine wpAnyH_done (by kernel_rfl) ?_ _
    clear hS4
    have hb04 : Below w.heap.size w w4 := hb3.trans (hS.mono hb3.size)
    cases my
    case false =>
      have he : rput T l = ([], 1) := by rw [HRP.out, mays_no HT.out HV.out HMY.out.symm]; rfl
      have HE := Lib.hid he
      clear he
      go_wp2_with fail
      go_ret2
      exact retBE_err HE.out hb04
    have HTO2 := Lib.hid (maysTo_more HTO.out HT.out HV.out HMY.out.symm)
    have hown4 := own_bel hown3 hS
    have hmap4 := map_bel hmap3 hS (lt_of_map hmap3)
    obtain ⟨d0, d1, d2⟩ := D3 w4 hS
    clear D3 hown3 hmap3 hb4
    by_cases h0 : v.k = 0
    · have e0 : ((v.k : Int) == 0) = true := by simp; omega
      have HB := Lib.hid (bsAt_null HV.out h0)
      have hget := bsAt_get (l := l) (k := k) (by rw [← HN.out]; exact hlt)
      rw [← HBS.out] at hget
      obtain ⟨x, hx⟩ : ∃ x, x = byAt l k := ⟨_, rfl⟩
      have hx256 : x < 256 := by rw [hx]; exact byAt_lt _ _
      rw [← hx] at hget
      obtain ⟨j, hj⟩ : ∃ j, j = k / 8 := ⟨_, rfl⟩
      obtain ⟨r, hr⟩ : ∃ r, r = k % 8 := ⟨_, rfl⟩
      have hjI : (k : Int) / 8 = (j : Int) := by omega
      have hrI : (k : Int) % 8 = (r : Int) := by omega
      have hr8 : r < 8 := by omega
      have hjL : j < bs.length := by omega
      rw [← hj] at hget
      have hcell : w4.cell? ⟨g, j, none⟩ = some (.int .u8 (x : Int)) := by
        rw [hown4.cellAt j (by omega), List.getElem?_map, hget]
        simp [b8, toNat_toUInt8 hx256]
      have hfr : w4.frozen? ⟨g, j, none⟩ = false := hown4.frozenAt j
      have HX := Lib.hid hx
      have HJ := Lib.hid hj
      have HR := Lib.hid hr
      have hg4 : g < w4.heap.size := by have := hS.size; omega
      clear hx hj hr hget h0
      go_wp2_with fail
      have hjLI : (j : Int) < (bs.length : Int) := by omega
      have hwj : IntKind.i64.wrap (j : Int) = (j : Int) := by rw [IntKind.wrap_i64]; omega
      have htm : (k : Int).tmod 8 = (r : Int) := by rw [Int.tmod_eq_emod_of_nonneg (by omega)]; omega
      have hsh := fun w => shl8 r hr8 w
      have hor := or8 x (2 ^ r) hx256 (by have := Nat.pow_lt_pow_right (a := 2) (by omega) hr8; omega)
      refine ah_start 11 (fun w' => True) rfl (by kernel_rfl) trivial ?_ ; clear hS; intro hS
      (refine mv_val 0 (v := ?_) rfl (by kernel_rfl) (by kernel_rfl) (by kernel_rfl) (fun _ _ _ h => h) (by rfl) hS ?_ ?_; rotate_left; (focus (intro w hSw; (try dsimp only at hSw); (have f2 := hjL; have f3 := hjI; have f4 := hrI; have f5 := hjLI; have f6 := hr8; have f7 := hwj; have f8 := htm; have f9 := hsh w; have f10 := hor); go_simp; first | done | with_reducible rfl)); simp only [Act.put, List.setIfInBounds_toArray, List.set_cons_zero, List.set_cons_succ])
      (refine mv_val 1 (v := ?_) rfl (by kernel_rfl) (by kernel_rfl) (by kernel_rfl) (fun _ _ _ h => h) (by rfl) hS ?_ ?_; rotate_left; (focus (intro w hSw; (try dsimp only at hSw); (have f2 := hjL; have f3 := hjI; have f4 := hrI; have f5 := hjLI; have f6 := hr8; have f7 := hwj; have f8 := htm; have f9 := hsh w; have f10 := hor); go_simp; first | done | with_reducible rfl)); simp only [Act.put, List.setIfInBounds_toArray, List.set_cons_zero, List.set_cons_succ])
      (refine mv_val 2 (v := ?_) rfl (by kernel_rfl) (by kernel_rfl) (by kernel_rfl) (fun _ _ _ h => h) (by rfl) hS ?_ ?_; rotate_left; (focus (intro w hSw; (try dsimp only at hSw); (have f2 := hjL; have f3 := hjI; have f4 := hrI; have f5 := hjLI; have f6 := hr8; have f7 := hwj; have f8 := htm; have f9 := hsh w; have f10 := hor); go_simp; first | done | with_reducible rfl)); simp only [Act.put, List.setIfInBounds_toArray, List.set_cons_zero, List.set_cons_succ])
      (refine mv_val 3 (v := ?_) rfl (by kernel_rfl) (by kernel_rfl) (by kernel_rfl) (fun _ _ _ h => h) (by rfl) hS ?_ ?_; rotate_left; (focus (intro w hSw; (try dsimp only at hSw); (have f2 := hjL; have f3 := hjI; have f4 := hrI; have f5 := hjLI; have f6 := hr8; have f7 := hwj; have f8 := htm; have f9 := hsh w; have f10 := hor); go_simp; first | done | with_reducible rfl)); simp only [Act.put, List.setIfInBounds_toArray, List.set_cons_zero, List.set_cons_succ])
      (refine mv_val 5 (v := ?_) rfl (by kernel_rfl) (by kernel_rfl) (by kernel_rfl) (fun _ _ _ h => h) (by rfl) hS ?_ ?_; rotate_left; (focus (intro w hSw; (try dsimp only at hSw); (have f2 := hjL; have f3 := hjI; have f4 := hrI; have f5 := hjLI; have f6 := hr8; have f7 := hwj; have f8 := htm; have f9 := hsh w; have f10 := hor); go_simp; first | done | with_reducible rfl)); simp only [Act.put, List.setIfInBounds_toArray, List.set_cons_zero, List.set_cons_succ])
      (refine mv_val 6 (v := ?_) rfl (by kernel_rfl) (by kernel_rfl) (by kernel_rfl) (fun _ _ _ h => h) (by rfl) hS ?_ ?_; rotate_left; (focus (intro w hSw; (try dsimp only at hSw); (have f2 := hjL; have f3 := hjI; have f4 := hrI; have f5 := hjLI; have f6 := hr8; have f7 := hwj; have f8 := htm; have f9 := hsh w; have f10 := hor); go_simp; first | done | with_reducible rfl)); simp only [Act.put, List.setIfInBounds_toArray, List.set_cons_zero, List.set_cons_succ])
      (refine mv_val 7 (v := ?_) rfl (by kernel_rfl) (by kernel_rfl) (by kernel_rfl) (fun _ _ _ h => h) (by rfl) hS ?_ ?_; rotate_left; (focus (intro w hSw; (try dsimp only at hSw); (have f2 := hjL; have f3 := hjI; have f4 := hrI; have f5 := hjLI; have f6 := hr8; have f7 := hwj; have f8 := htm; have f9 := hsh w; have f10 := hor); go_simp; first | done | with_reducible rfl)); simp only [Act.put, List.setIfInBounds_toArray, List.set_cons_zero, List.set_cons_succ])
      refine mv_step 4 rfl (by kernel_rfl) (by rfl) (fun K hK => ?_)
      go_simp
      refine hK _ _ ?_ ?_ <;> clear hK K
      · trivial
      try simp only [Act.put, List.setIfInBounds_toArray, List.set_cons_zero, List.set_cons_succ]
      (refine mv_val 8 (v := ?_) rfl (by kernel_rfl) (by kernel_rfl) (by kernel_rfl) (fun _ _ _ h => h) (by rfl) hS ?_ ?_; rotate_left; (focus (intro w hSw; (try dsimp only at hSw); (have f2 := hjL; have f3 := hjI; have f4 := hrI; have f5 := hjLI; have f6 := hr8; have f7 := hwj; have f8 := htm; have f9 := hsh w; have f10 := hor); go_simp; first | done | with_reducible rfl)); simp only [Act.put, List.setIfInBounds_toArray, List.set_cons_zero, List.set_cons_succ])
      (refine mv_val 9 (v := ?_) rfl (by kernel_rfl) (by kernel_rfl) (by kernel_rfl) (fun _ _ _ h => h) (by rfl) hS ?_ ?_; rotate_left; (focus (intro w hSw; (try dsimp only at hSw); (have f2 := hjL; have f3 := hjI; have f4 := hrI; have f5 := hjLI; have f6 := hr8; have f7 := hwj; have f8 := htm; have f9 := hsh w; have f10 := hor); go_simp; first | done | with_reducible rfl)); simp only [Act.put, List.setIfInBounds_toArray, List.set_cons_zero, List.set_cons_succ])
      refine mv_step 10 rfl (by kernel_rfl) (by rfl) (fun K hK => ?_)
      go_simp
      refine hK _ _ ?_ ?_ <;> clear hK K
      · trivial
      try simp only [Act.put, List.setIfInBounds_toArray, List.set_cons_zero, List.set_cons_succ]
      refine wpAnyH_done (by kernel_rfl) ?_ _
      go_wp2_with fail
      go_roundw
      case rel =>
        refine ⟨k + 1, by omega, by go_num, HTO2.out, ?_, ?_, ?_⟩
        · have h1 := (hown4.stored j (.int .u8 (bits .or .u8 (x : Int) ((2 : Int) ^ r % 256)))).1
          have e1 : (2 : Int) ^ r % 256 = ((2 ^ r : Nat) : Int) := by
            have h256 : 2 ^ r < 256 := Nat.pow_lt_pow_right (a := 2) (by omega) hr8
            rw [show ((2 : Int) ^ r) = ((2 ^ r : Nat) : Int) by simp]
            exact Int.emod_eq_of_lt (Int.natCast_nonneg _) (Int.ofNat_lt.2 h256)
          have hx2 : x ||| 2 ^ r < 256 := Nat.or_lt_two_pow (n := 8) hx256 (Nat.pow_lt_pow_right (by omega) hr8)
          have e2 : Value.int .u8 (bits .or .u8 (x : Int) ((2 : Int) ^ r % 256)) = b8 (x ||| 2 ^ r).toUInt8 := by
            rw [e1, hor]; unfold b8; rw [toNat_toUInt8 hx2]
          have e3 : bsAt l (k + 1) = bs.set j (x ||| 2 ^ r).toUInt8 := by rw [HB.out, HBS.out, HJ.out, HX.out, HR.out]
          rw [e2] at h1 ⊢
          rw [e3, List.length_set, show cells (bs.set j (x ||| 2 ^ r).toUInt8) = (cells bs).set j (b8 (x ||| 2 ^ r).toUInt8) by unfold cells; rw [List.map_set]]
          exact h1
        · exact hmap4.setCell (a := ⟨g, j, none⟩) (fun e => own_ne_map hown4 hmap4 (by simp [Value.ownBlock, e])) _
        · exact (hb04.setCell (p := ⟨g, j, none⟩) hg1 _).drew
      case measure => simp [intOf]; omega
    · have e0 : ((v.k : Int) == 0) = false := by simp; omega
      have hmy : mayB v = true := by
        have := HMY.out.symm
        unfold rmay at this
        rw [Bool.and_eq_true] at this; exact this.1
      have hk3 : v.k = 1 ∨ v.k = 2 ∨ v.k = 3 := by rcases mayB_k hmy with h | h | h | h <;> omega
      have hat := look_way v.k hk3
      have hent := put_enters v.k hk3
      have P0 := fun w1 hown => fun hbase => put_any v hmy h0 hvn (by omega) w.heap.size (some ⟨g, 0, none⟩) cap bs w1 hown hbase hbl
      obtain ⟨f, hf⟩ : ∃ f, f = put_no v.k := ⟨_, rfl⟩
      rw [← hf] at hat hent P0
      have HP := Lib.hid P0
      have HAT := Lib.hid hat
      have HB := Lib.hid (bsAt_val HV.out h0)
      rw [← HBS.out] at HB
      clear P0 hat hf hmy hk3 h0
      have hs4 : w.heap.size ≤ w4.heap.size := hb04.size
      have hfl := fun w => field_put f (get_no v.k) w
      go_wp2_with (at_lookup; refine wpList_lookup_tab _ rfl _ _ 73 rfl 5 79 law8 Try.underlying73 wayE (zeroWay _) zway [] rfl mb 3 wtab rfl hmap4 _ _ rfl (key8N v.k hvk) (wv f (get_no v.k)) (fun vf ps hvf => wayE_inv (hvf.trans (by rw [HAT.out]))) ?_)
      refine (HP.out _ hown4 hs4).mono ?_; rintro e w5 ⟨v5, rfl, hown5, hb5, hk5⟩
      have hmap5 := map_same hmap4 (hk5 mb (lt_of_map hmap4) (own_ne_map hown4 hmap4))
      go_wp2_with fail
      go_roundw
      case rel =>
        refine ⟨k + 1, by omega, by go_num, HTO2.out, ?_, hmap5, hb04.trans hb5⟩
        rw [HB.out]; exact hown5
      case measure => simp [intOf]; omega
end Go.Proofs.Ythkpgjcnnfdibaa.Rw

/-! The walk of row.Get (layer 4): it answers rget, in new memory. No condition but sizes. -/
namespace Go.Proofs.Ythkpgjcnnfdibaa.Rw
open Go.RowKit Go.Maps
set_option linter.unusedVariables false
set_option linter.unusedSimpArgs false

theorem shr8 (x r : Nat) (hx : x < 256) (hr : r < 8) (w : World) : (Op.shift .shr .u8 (x : Int) .i64 (r : Int)).run Try.prog w = .ok (.int .u8 ((x / 2 ^ r : Nat) : Int)) w := by
  rcases (by omega : r = 0 ∨ r = 1 ∨ r = 2 ∨ r = 3 ∨ r = 4 ∨ r = 5 ∨ r = 6 ∨ r = 7) with rfl | rfl | rfl | rfl | rfl | rfl | rfl | rfl <;> (simp [go_sem]; try omega)
theorem and1 (y : Nat) (hy : y < 256) : bits .and .u8 (y : Int) 1 = ((y % 2 : Nat) : Int) := by
  rw [u8_and _ _ (by omega) (by omega) (by omega) (by omega)]
  have : (1 : Int).toNat = 1 := rfl
  rw [this, Int.toNat_natCast, nat_mask1]
theorem bitAt_of {b : List UInt8} {i : Nat} {x : UInt8} (h : b[i / 8]? = some x) : bitAt b i = decide (x.toNat / 2 ^ (i % 8) % 2 = 1) := by unfold bitAt; rw [h]; rfl
theorem bitAt_take {b : List UInt8} {i m : Nat} (h : i < 8 * m) : bitAt (b.take m) i = bitAt b i := by
  unfold bitAt
  rw [List.getElem?_take, if_pos (by omega)]

set_option maxHeartbeats 1000000 in
set_option maxRecDepth 100000 in
theorem null_any (B : Nat) (A : Option Addr) (c : Nat) (b : List UInt8) (q i : Nat) (w : World) (hr : Rd w B A (cells b)) (hq : w.cell? ⟨q, 0, none⟩ = some (.slice A b.length c)) (hi : i < 8 * b.length) (hl : b.length ≤ 4294967296) :
    Calls Try.prog 97 #[.int .i64 (i : Int), .pointer (some ⟨q, 0, none⟩)] w fun e w' => e = .returned (.bool (bitAt b i)) ∧ w = w' := by
  have hlt : i / 8 < b.length := by omega
  obtain ⟨bb, oo, rfl, hb, hc⟩ := rd_cell hr hlt
  have hck := hc (i / 8) hlt
  obtain ⟨x, hx⟩ : ∃ x, x = b[i / 8] := ⟨_, rfl⟩
  rw [← hx] at hck
  have hbit := bitAt_of (b := b) (i := i) (x := x) (by rw [hx]; exact List.getElem?_eq_getElem hlt)
  have hx256 := x.toNat_lt
  obtain ⟨X, hX⟩ : ∃ X, X = x.toNat := ⟨_, rfl⟩
  rw [← hX] at hck hbit hx256
  obtain ⟨j, hj⟩ : ∃ j, j = i / 8 := ⟨_, rfl⟩
  obtain ⟨r, hrr⟩ : ∃ r, r = i % 8 := ⟨_, rfl⟩
  have hr8 : r < 8 := by omega
  have hjI : (i : Int) / 8 = (j : Int) := by omega
  have htm : (i : Int).tmod 8 = (r : Int) := by rw [Int.tmod_eq_emod_of_nonneg (by omega)]; omega
  have hsh := fun w => shr8 X r hx256 hr8 w
  have hy : X / 2 ^ r < 256 := Nat.lt_of_le_of_lt (Nat.div_le_self _ _) hx256
  have han := and1 (X / 2 ^ r) hy
  rw [← hrr] at hbit
  rw [← hj] at hck hlt
  have hwj : IntKind.i64.wrap (j : Int) = (j : Int) := by rw [IntKind.wrap_i64]; omega
  have hjLI : (j : Int) < (b.length : Int) := by omega
  have hval : (bits .and .u8 ((X : Int) / 2 ^ r) 1 == 1) = bitAt b i := by
    rw [show ((X : Int) / 2 ^ r) = ((X / 2 ^ r : Nat) : Int) by simp, han, hbit]
    by_cases h : X / 2 ^ r % 2 = 1
    · simp [h]
    · have h0 : X / 2 ^ r % 2 = 0 := by omega
      simp [h0]
  have HB := Lib.hid hval
  clear hx hX hj hrr hc hbit hy hval hi hsh han
  go_enter Try.func97, Try.ntmps97
  go_wp2
  go_ret
  exact ⟨by rw [← HB.out]; rfl, rfl⟩

/-- 'b[:m]' of bytes that are read. -/
theorem upto_any {A : Option Addr} {n c : Nat} (m : Nat) (hm : m ≤ n) (hc : n ≤ c) (w' : World) (z : Int) (hz : z = m) :
    (Instr.sliceAt 22 (.slice A n c) none (some (.int .i64 z)) none).run Try.prog w' = .ok (.slice A m c) w' := by
  obtain ⟨i0, hi, hz0, hz1, hz2⟩ := info_parts Try.infoU8
  subst hz
  simp [Instr.sliceAt, Instr.slice, run_underlying Try.underlying22, Instr.sliceBounds, run_sliceBound, sizeOf, typeInfo, hi, hz1, (by omega : (0 : Int) ≤ (m : Int)), (by omega : (m : Int) ≤ (c : Int))]
  intro _
  cases A <;> simp [Addr.add]

theorem vcells_rep (v : V) (n : Nat) (cs : Array Value) (hcs : cs.toList = cv v) : (madeCells cs (n * 3)).toList = vcells (List.replicate n v) := by
  have h3 : cs.size = 3 := by rw [← Array.length_toList, hcs]; rfl
  apply List.ext_getElem?
  intro j
  rw [vcells_get, List.getElem?_replicate]
  by_cases hj : j < n * 3
  · rw [if_pos (by omega)]
    have hm : j % 3 < 3 := Nat.mod_lt _ (by omega)
    have hget : cs[j % 3]? = (cv v)[j % 3]? := by rw [← Array.getElem?_toList, hcs]
    simp only [madeCells, Array.toList_map, Array.toList_range, List.getElem?_map, h3]
    rw [List.getElem?_range hj]
    simp only [Option.map_some, Option.bind_some, ← hget]
    rw [Array.getElem?_eq_getElem (by omega)]
    simp [getElem!_pos, h3, hm]
  · rw [if_neg (by omega)]
    simp [madeCells, hj]
/-- a value stored in a slice of values of the call's own -/
theorem own_set3 {w : World} {base n cap g : Nat} {e : TypeId} {l : List V} (h : w.ownsRow base e 3 (.slice (some ⟨g, 0, none⟩) n cap) n (vcells l)) {i : Nat} (v : V) (hi : i < l.length) :
    (((w.setCell ⟨g, i * 3, none⟩ (.int .u8 (v.k : Int))).setCell ⟨g, i * 3 + 1, none⟩ (.int .i64 v.n)).setCell ⟨g, i * 3 + 2, none⟩ (txt v.t)).ownsRow base e 3 (.slice (some ⟨g, 0, none⟩) n cap) n (vcells (l.set i v)) := by
  have h3 := ((h.stored (i * 3) (.int .u8 (v.k : Int))).1.stored (i * 3 + 1) (.int .i64 v.n)).1.stored (i * 3 + 2) (txt v.t)
  have e : (((vcells l).set (i * 3) (.int .u8 (v.k : Int))).set (i * 3 + 1) (.int .i64 v.n)).set (i * 3 + 2) (txt v.t) = vcells (l.set i v) := by
    apply List.ext_getElem?
    intro j
    rw [vcells_get (l.set i v), List.getElem?_set (l := l)]
    have hl := vcells_length l
    rcases (by omega : j = i * 3 ∨ j = i * 3 + 1 ∨ j = i * 3 + 2 ∨ (i ≠ j / 3 ∧ j ≠ i * 3 ∧ j ≠ i * 3 + 1 ∧ j ≠ i * 3 + 2)) with rfl | rfl | rfl | ⟨h0, h1, h2, h3⟩
    · rw [if_pos (show i = i * 3 / 3 by omega), if_pos hi, show i * 3 % 3 = 0 by omega]
      rw [List.getElem?_set_ne (show i * 3 + 2 ≠ i * 3 by omega), List.getElem?_set_ne (show i * 3 + 1 ≠ i * 3 by omega), List.getElem?_set_self (by omega)]; rfl
    · rw [if_pos (show i = (i * 3 + 1) / 3 by omega), if_pos hi, show (i * 3 + 1) % 3 = 1 by omega]
      rw [List.getElem?_set_ne (show i * 3 + 2 ≠ i * 3 + 1 by omega), List.getElem?_set_self (by rw [List.length_set]; omega)]; rfl
    · rw [if_pos (show i = (i * 3 + 2) / 3 by omega), if_pos hi, show (i * 3 + 2) % 3 = 2 by omega]
      rw [List.getElem?_set_self (by rw [List.length_set, List.length_set]; omega)]; rfl
    · rw [if_neg h0, List.getElem?_set_ne (Ne.symm h3), List.getElem?_set_ne (Ne.symm h2), List.getElem?_set_ne (Ne.symm h1), vcells_get]
  rw [e] at h3
  exact h3.1
end Go.Proofs.Ythkpgjcnnfdibaa.Rw

/-! The walk of row.Get (layer 4): it answers rget, in new memory. No condition but sizes. -/
namespace Go.Proofs.Ythkpgjcnnfdibaa.Rw
open Go.RowKit Go.Maps
set_option linter.unusedVariables false
set_option linter.unusedSimpArgs false

theorem anyBit_iff (b : List UInt8) (i m : Nat) : anyBit b i m = true ↔ ∃ q, i ≤ q ∧ q < m ∧ bitAt b q = true := by
  unfold anyBit
  rw [List.any_eq_true]
  constructor
  · rintro ⟨q, hq, h⟩
    rw [List.mem_range'_1] at hq
    exact ⟨q, hq.1, by omega, h⟩
  · rintro ⟨q, h1, h2, h⟩
    exact ⟨q, by rw [List.mem_range'_1]; omega, h⟩
theorem vread_le (t : UInt8) (b : List UInt8) : (vread t b).2.1 ≤ b.length ∧ vok (vread t b).1 ∨ (vread t b).2.2 ≠ 0 ∨ maxLen < b.length := by
  have hv := vget_val b
  unfold vread
  split
  · match b with
    | [] => right; left; simp
    | c :: r =>
      dsimp only
      split
      · right; left; simp
      · left
        exact ⟨by simp, by have := c.toNat_lt; unfold vok i64r; dsimp only; refine ⟨by omega, by omega, by simp⟩⟩
  · split
    · right; left; assumption
    · split
      · left
        have hz := zag_bd ((vget b).1 : Int) (by omega) (by omega)
        exact ⟨hv.2.2, by unfold vok; dsimp only; exact ⟨by omega, hz, by simp⟩⟩
      · split
        · right; left; simp
        · by_cases hb : b.length ≤ maxLen
          · left
            refine ⟨by dsimp only; omega, ?_⟩
            unfold vok i64r; dsimp only
            refine ⟨by omega, by omega, ?_⟩
            rw [List.length_take, List.length_drop]; omega
          · right; right; omega
theorem get_any (t : UInt8) (ht : t.toNat = 1 ∨ t.toNat = 2 ∨ t.toNat = 3) (B : Nat) (A : Option Addr) (c : Nat) (b : List UInt8) (w : World) (hr : Rd w B A (cells b)) (hc : b.length ≤ c) (hB : B ≤ w.heap.size) (hlen : b.length ≤ 4294967296) :
    Calls Try.prog (get_no t.toNat) #[.slice A b.length c] w (RetR w (vread t b)) := by
  rcases ht with h | h | h
  · obtain rfl : t = 1 := UInt8.toNat_inj.1 h
    exact get1_any B A c b w hr hc hB hlen
  · obtain rfl : t = 2 := UInt8.toNat_inj.1 h
    exact get2_any B A c b w hr hc hB hlen
  · obtain rfl : t = 3 := UInt8.toNat_inj.1 h
    exact get3_any B A c b w hr hc hB hlen

set_option maxHeartbeats 4000000 in
set_option maxRecDepth 100000 in
theorem Get_row (B : Nat) (A A' : Option Addr) (c c' : Nat) (T b : List UInt8) (w : World) (hT : Rd w B A (cells T)) (hb : Rd w B A' (cells b)) (hB : B ≤ w.heap.size) (hcb : b.length ≤ c')
    (hTl : T.length ≤ 4294967296) (hbl : b.length ≤ 4294967296) :
    Calls Try.prog 66 #[.slice A T.length c, .slice A' b.length c'] w (RetVE w (rget T b)) := by
  have K0 := fun w h => known_any B A c T w h (by unfold maxLen; omega)
  obtain ⟨kn, hkn⟩ : ∃ x, x = knownT T := ⟨_, rfl⟩
  rw [← hkn] at K0
  have HK := Lib.hid K0
  have HKN := Lib.hid hkn
  clear K0 hkn
  cases kn
  case false =>
    have he : rget T b = ([], 1) := by unfold rget; rw [← HKN.out]; rfl
    have HE := Lib.hid he
    clear he
    go_enter Try.func66, Try.ntmps66
    go_wp2_with fail
    refine (HK.out _ hT).mono ?_; rintro e w1 ⟨rfl, rfl⟩
    go_wp2_with fail
    go_ret2
    exact retVE_err HE.out (Below.refl _ _)
  obtain ⟨n, hn⟩ : ∃ n, n = T.length := ⟨_, rfl⟩
  have h8l := size8_le T.length
  obtain ⟨m, hm⟩ : ∃ m, m = size8 T.length := ⟨_, rfl⟩
  have hmI : ((n : Int) + 7) / 8 = (m : Int) := by rw [hm, hn]; unfold size8; omega
  have hm8 : n ≤ 8 * m := by omega
  have hmn : m ≤ n + 7 := by rw [hm, hn]; unfold size8; omega
  obtain ⟨L, hL⟩ : ∃ L, L = b.length := ⟨_, rfl⟩
  have hrg : rget T b = if L < m then ([], 20) else if anyBit b n (8 * m) then ([], 21) else rvals b 0 T [] (b.drop m) := by
    unfold rget; rw [← HKN.out, if_neg (by simp), hL, hm, hn]
  have HRG := Lib.hid hrg
  rw [← hn] at HK hTl
  rw [← hn, ← hL]
  rw [← hL] at hbl hcb
  have HN := Lib.hid hn
  have HM := Lib.hid hm
  have HL := Lib.hid hL
  clear hn hm hL hrg h8l
  by_cases hLm : L < m
  case pos =>
    have he : rget T b = ([], 20) := by rw [HRG.out, if_pos hLm]
    have HE := Lib.hid he
    have hLI : (L : Int) < (m : Int) := by omega
    clear he
    go_enter Try.func66, Try.ntmps66
    go_wp2_with fail
    refine (HK.out _ hT).mono ?_; rintro e w1 ⟨rfl, rfl⟩
    go_wp2_with fail
    go_ret2
    exact retVE_err HE.out (Below.refl _ _)
  have hLI : (m : Int) ≤ (L : Int) := by omega
  have hs1 := fun w => upto_any (A := A') (n := L) (c := c') m (by omega) hcb w (m : Int) rfl
  obtain ⟨A2, c2, hs2, hrd2, hc2⟩ := from_any (A := A') (l := b) c' m (by rw [← HL.out]; omega) (by rw [← HL.out]; exact hcb) hb
  have hs2' := fun w => hs2 w (m : Int) rfl
  rw [← HL.out] at hs2'
  have hhead : Rd w B A' (cells (b.take m)) := by
    have := hb.take m
    unfold cells at *; rw [List.map_take]; exact this
  have hhl : (b.take m).length = m := by rw [List.length_take, ← HL.out]; omega
  obtain ⟨rest0, hr0⟩ : ∃ r, r = b.drop m := ⟨_, rfl⟩
  rw [← hr0] at hrd2 hc2 hs2'
  have HR0 := Lib.hid hr0
  clear hs2 hr0
  go_enter Try.func66, Try.ntmps66
  go_wp2_with fail
  refine (HK.out _ hT).mono ?_; rintro e w0 ⟨rfl, rfl⟩
  go_wp2_with fail
  refine ah_start 9 (fun w' => True) rfl (by kernel_rfl) trivial ?_ ; intro hS
  (refine mv_val 0 (v := ?_) rfl (by kernel_rfl) (by kernel_rfl) (by kernel_rfl) (fun _ _ _ h => h) (by rfl) hS ?_ ?_; rotate_left; (focus (intro w hSw; (try dsimp only at hSw); (have f1 := hs1 w; have f2 := hs2' w); go_simp; first | done | with_reducible rfl)); simp only [Act.put, List.setIfInBounds_toArray, List.set_cons_zero, List.set_cons_succ])
  (refine mv_val 1 (v := ?_) rfl (by kernel_rfl) (by kernel_rfl) (by kernel_rfl) (fun _ _ _ h => h) (by rfl) hS ?_ ?_; rotate_left; (focus (intro w hSw; (try dsimp only at hSw); (have f1 := hs1 w; have f2 := hs2' w); go_simp; first | done | with_reducible rfl)); simp only [Act.put, List.setIfInBounds_toArray, List.set_cons_zero, List.set_cons_succ])
  (refine mv_val 2 (v := ?_) rfl (by kernel_rfl) (by kernel_rfl) (by kernel_rfl) (fun _ _ _ h => h) (by rfl) hS ?_ ?_; rotate_left; (focus (intro w hSw; (try dsimp only at hSw); (have f1 := hs1 w; have f2 := hs2' w); go_simp; first | done | with_reducible rfl)); simp only [Act.put, List.setIfInBounds_toArray, List.set_cons_zero, List.set_cons_succ])
  (refine mv_val 3 (v := ?_) rfl (by kernel_rfl) (by kernel_rfl) (by kernel_rfl) (fun _ _ _ h => h) (by rfl) hS ?_ ?_; rotate_left; (focus (intro w hSw; (try dsimp only at hSw); (have f1 := hs1 w; have f2 := hs2' w); go_simp; first | done | with_reducible rfl)); simp only [Act.put, List.setIfInBounds_toArray, List.set_cons_zero, List.set_cons_succ])
  (refine mv_val 4 (v := ?_) rfl (by kernel_rfl) (by kernel_rfl) (by kernel_rfl) (fun _ _ _ h => h) (by rfl) hS ?_ ?_; rotate_left; (focus (intro w hSw; (try dsimp only at hSw); (have f1 := hs1 w; have f2 := hs2' w); go_simp; first | done | with_reducible rfl)); simp only [Act.put, List.setIfInBounds_toArray, List.set_cons_zero, List.set_cons_succ])
  (refine mv_val 5 (v := ?_) rfl (by kernel_rfl) (by kernel_rfl) (by kernel_rfl) (fun _ _ _ h => h) (by rfl) hS ?_ ?_; rotate_left; (focus (intro w hSw; (try dsimp only at hSw); (have f1 := hs1 w; have f2 := hs2' w); go_simp; first | done | with_reducible rfl)); simp only [Act.put, List.setIfInBounds_toArray, List.set_cons_zero, List.set_cons_succ])
  refine mv_step 6 rfl (by kernel_rfl) (by rfl) (fun K hK => ?_)
  go_simp
  refine hK _ _ ?_ ?_ <;> clear hK K
  · trivial
  try simp only [Act.put, List.setIfInBounds_toArray, List.set_cons_zero, List.set_cons_succ]
  refine mv_step 7 rfl (by kernel_rfl) (by rfl) (fun K hK => ?_)
  go_simp
  refine hK _ _ ?_ ?_ <;> clear hK K
  · trivial
  try simp only [Act.put, List.setIfInBounds_toArray, List.set_cons_zero, List.set_cons_succ]
  (refine mv_val 8 (v := ?_) rfl (by kernel_rfl) (by kernel_rfl) (by kernel_rfl) (fun _ _ _ h => h) (by rfl) hS ?_ ?_; rotate_left; (focus (intro w hSw; (try dsimp only at hSw); (have f1 := hs1 w; have f2 := hs2' w); go_simp; first | done | with_reducible rfl)); simp only [Act.put, List.setIfInBounds_toArray, List.set_cons_zero, List.set_cons_succ])
  refine wpAnyH_done (by kernel_rfl) ?_ _
  obtain ⟨w3, hw3⟩ : ∃ w3, w3 = (w.alloc (.cells #[.slice A' m c'] 22)).drew := ⟨_, rfl⟩
  rw [← hw3]
  have hb3 : Below w.heap.size w w3 := by rw [hw3]; exact ((Below.refl _ _).alloc (Nat.le_refl _) _).drew
  have hz3 : w3.heap.size = w.heap.size + 1 := by rw [hw3]; simp
  have hc3 : w3.cell? ⟨w.heap.size, 0, none⟩ = some (.slice A' m c') := by rw [hw3]; simp [go_sem]
  have NA := fun (w' : World) (h : Below w3.heap.size w3 w') (i : Nat) (hi : i < 8 * m) => null_any B A' c' (b.take m) w.heap.size i w' (hhead.below ((hb3.trans (h.mono hb3.size)).mono hB)) (by rw [hhl]; exact cell_be hc3 h (by show w.heap.size < _; omega)) (by rw [hhl]; exact hi) (by rw [hhl]; omega)
  have NB : ∀ (w' : World), Below w3.heap.size w3 w' → ∀ i, i < 8 * m → Calls Try.prog 97 #[.int .i64 (i : Int), .pointer (some ⟨w.heap.size, 0, none⟩)] w' fun e w'' => e = .returned (.bool (bitAt b i)) ∧ w' = w'' := fun w' h i hi => by
    have := NA w' h i hi
    rwa [bitAt_take hi] at this
  have HNB := Lib.hid NB
  clear NA NB hw3 hc3 hs1 hs2'
  go_wp2_with fail
  go_loopw [10] (fun v10 wr => ∃ i : Nat, n ≤ i ∧ i ≤ 8 * m ∧ v10 = .int .i64 i ∧ (∀ q, n ≤ q → q < i → bitAt b q = false) ∧ w3 = wr) (fun v10 _ => 8 * m - (intOf v10).toNat)
  case atStart => exact ⟨n, Nat.le_refl _, hm8, rfl, fun q h1 h2 => by omega, rfl⟩
  case round =>
    obtain ⟨i, hi1, hi2, rfl, hno, rfl⟩ := hrel
    have HNO := Lib.hid hno
    clear hno
    by_cases hlt : i < 8 * m
    · have hltI : (i : Int) < 8 * (m : Int) := by omega
      have N0 := HNB.out w3 (Below.refl _ _) i hlt
      obtain ⟨bi, hbi⟩ : ∃ x, x = bitAt b i := ⟨_, rfl⟩
      rw [← hbi] at N0
      have HBI := Lib.hid hbi
      clear hbi
      go_wp2_with fail
      refine N0.mono ?_; rintro e w4 ⟨rfl, rfl⟩
      clear N0
      cases bi
      · go_wp2_with fail
        go_roundw
        case rel =>
          refine ⟨i + 1, by omega, by omega, by go_num, fun q h1 h2 => ?_, trivial⟩
          by_cases hq : q = i
          · rw [hq]; exact HBI.out.symm
          · exact HNO.out q h1 (by omega)
        case measure => simp [intOf]; omega
      · have he : rget T b = ([], 21) := by
          rw [HRG.out, if_neg hLm, if_pos ((anyBit_iff _ _ _).2 ⟨i, hi1, hlt, HBI.out.symm⟩)]
        have HE := Lib.hid he
        clear he
        go_wp2_with fail
        go_ret2
        exact retVE_err HE.out hb3
    have hi8 : i = 8 * m := by omega
    have hr2 : rget T b = rvals b 0 T [] rest0 := by
      rw [HRG.out, if_neg hLm, if_neg, HR0.out]
      rw [anyBit_iff]
      rintro ⟨q, h1, h2, h3⟩
      rw [HNO.out q h1 (by omega)] at h3; cases h3
    have HR2 := Lib.hid hr2
    have hgeI : 8 * (m : Int) ≤ (i : Int) := by omega
    clear hi8 hlt hr2 HRG HNO
    have hb03 := hb3
    obtain ⟨by_, hinfo, hby⟩ := Try.infoVal
    obtain ⟨i0, hi, hz0, hz1, hz2⟩ := info_parts hinfo
    obtain ⟨w4, hmk, hown, hg⟩ := run_make_full (P := Try.prog) w3 w3.heap.size 37 46 i0 (.agg #[.int .u8 0, .int .i64 0, .string ByteArray.empty]) 3 Try.underlying37 hi hz0 hz1 .i64 .i64 n (by rw [hz2]; exact Nat.le_trans (Nat.mul_le_mul hby hTl) (by decide)) (by unfold maxLen; omega) (Nat.le_refl _)
    have hmk2 : (Instr.makeSlice 37 (.int .i64 (n : Int)) (.int .i64 (n : Int))).run Try.prog w3 = .ok (.slice (some ⟨w3.heap.size, 0, none⟩) n n) w4 := hmk
    have hown4 : w4.ownsRow w3.heap.size 46 3 (.slice (some ⟨w3.heap.size, 0, none⟩) n n) n (vcells (List.replicate n null)) := by
      have h := hown
      rwa [vcells_rep null n (Value.agg #[.int .u8 0, .int .i64 0, .string ByteArray.empty]).cells rfl] at h
    have hb34 : Below w3.heap.size w3 w4 := (Below.refl _ w3).grown hg (Nat.le_refl _) (by simp)
    clear hmk hown hi hz0 hz1 hz2 hg hinfo
    go_wp2_with fail
    refine (ways_any _).mono ?_; rintro e w5 ⟨rfl, hmap, hb5⟩
    have hown5 := own_bel hown4 hb5
    have hb35 : Below w3.heap.size w3 w5 := hb34.trans (hb5.mono hb34.size)
    obtain ⟨mb, hmb⟩ : ∃ mb, mb = w4.heap.size := ⟨_, rfl⟩
    rw [← hmb] at hmap ⊢
    have hmbw : w3.heap.size ≤ mb := by rw [hmb]; exact hb34.size
    clear hmk2 hb5 hown4 hmb hb34
    rw [hz3] at hown5 hmbw
    have hkn : ∀ (k : Nat) (t : UInt8), T[k]? = some t → t.toNat = 1 ∨ t.toNat = 2 ∨ t.toNat = 3 := fun k t h => by
      have h1 := HKN.out.symm
      unfold knownT at h1
      rw [List.all_eq_true] at h1
      have h2 := h1 t (List.mem_of_getElem? h)
      rcases tyok_cases t with ⟨_, h3⟩ | ⟨h3, _⟩
      · exact h3
      · rw [h3] at h2; cases h2
    have HKT := Lib.hid hkn
    clear hkn
    go_wp2_with fail
    go_loopw [8, 53] (fun v8 v53 wr => ∃ (k : Nat) (acc : List V) (rest : List UInt8) (A0 : Option Addr) (c0 : Nat), k ≤ n ∧ v53 = .int .i64 k ∧ acc.length = k ∧ v8 = .slice A0 rest.length c0 ∧ rest.length ≤ c0 ∧ Rd wr B A0 (cells rest) ∧ rest.length ≤ L ∧ rget T b = rvals b k (T.drop k) acc rest ∧
        wr.ownsRow (w.heap.size + 1) 46 3 (.slice (some ⟨w.heap.size + 1, 0, none⟩) n n) n (vcells (acc ++ List.replicate (n - k) null)) ∧ wr.ownsMap Try.prog 5 wayE mb 3 wtab ∧ Below w3.heap.size w3 wr) (fun _ v53 _ => n - (intOf v53).toNat)
    case atStart =>
      exact ⟨0, [], rest0, A2, c2, by omega, rfl, rfl, rfl, hc2, hrd2.below ((hb3.trans (hb35.mono hb3.size)).mono hB), by rw [HR0.out, List.length_drop, ← HL.out]; omega, HR2.out, hown5, hmap, hb35⟩
    case round =>
      clear hown5 hmap hb35 hrd2 hc2 HR2
      obtain ⟨k, acc, rest, A0, c0, hk, rfl, hacc, rfl, hc0, hrd, hrl, hrv, hown, hmp, hbel⟩ := hrel
      have HRV := Lib.hid hrv
      have HACC := Lib.hid hacc
      clear hrv hacc
      have hb0 : Below w.heap.size w wr := hb3.trans (hbel.mono hb3.size)
      by_cases hlt : k < n
      case neg =>
        have hkn : k = n := by omega
        have hTd : T.drop k = [] := List.drop_eq_nil_of_le (by rw [← HN.out]; omega)
        have he : rget T b = if rest = [] then (acc, 0) else ([], 21) := by rw [HRV.out, hTd]; rfl
        have HE := Lib.hid he
        have hge : ¬ (k : Int) < (n : Int) := by omega
        clear he hTd
        rcases rest with _ | ⟨d, rest⟩
        · have HE2 : Hid (rget T b = (acc, 0)) := Lib.hid (by rw [HE.out, if_pos rfl])
          have hown2 : wr.ownsRow (w.heap.size + 1) 46 3 (.slice (some ⟨w.heap.size + 1, 0, none⟩) n n) acc.length (vcells acc) := by
            have h := hown
            rw [hkn, Nat.sub_self, List.replicate_zero, List.append_nil] at h
            rw [HACC.out, hkn]; exact h
          clear HE
          go_wp2_with fail
          go_ret2
          exact retVE_ok HE2.out (own_lower hown2 (by omega)) hb0
        · have HE2 : Hid (rget T b = ([], 21)) := Lib.hid (by rw [HE.out, if_neg (by simp)])
          have hpos : (0 : Int) < ((d :: rest).length : Int) := by rw [List.length_cons]; omega
          obtain ⟨rl, hrlen⟩ : ∃ rl, rl = (d :: rest).length := ⟨_, rfl⟩
          rw [← hrlen] at hpos ⊢
          clear HE hrlen
          go_wp2_with fail
          go_ret2
          exact retVE_err HE2.out hb0
      obtain ⟨t, ht⟩ : ∃ t, T[k]? = some t := ⟨_, List.getElem?_eq_getElem (by rw [← HN.out]; exact hlt)⟩
      obtain ⟨hbk, ho, rfl, hhb, hc⟩ := rd_cell hT (show k < T.length by rw [← HN.out]; exact hlt)
      have p0 := hc k (by rw [← HN.out]; exact hlt)
      rw [show T[k]'(by rw [← HN.out]; exact hlt) = t by rw [List.getElem?_eq_getElem (by rw [← HN.out]; exact hlt)] at ht; exact Option.some.inj ht] at p0
      have p1 := (hb0.cell (p := ⟨hbk, ho + k, none⟩) (by show hbk < _; omega)).trans p0
      have hkI : (k : Int) < (n : Int) := by omega
      have h123 := HKT.out k t ht
      have hTd : T.drop k = t :: T.drop (k + 1) := by
        rw [List.getElem?_eq_getElem (by rw [← HN.out]; exact hlt)] at ht
        rw [← Option.some.inj ht]; exact List.drop_eq_getElem_cons _
      have HTD := Lib.hid hTd
      have N0 := HNB.out wr hbel k (by omega)
      obtain ⟨bi, hbi⟩ : ∃ x, x = bitAt b k := ⟨_, rfl⟩
      rw [← hbi] at N0
      have HBI := Lib.hid hbi
      clear hbi hTd p0 hc
      go_wp2_with fail
      refine N0.mono ?_; rintro e w6 ⟨rfl, rfl⟩
      clear N0
      cases bi
      case true =>
        have hst : rget T b = rvals b (k + 1) (T.drop (k + 1)) (acc ++ [null]) rest := by
          rw [HRV.out, HTD.out]
          show (if bitAt b k then _ else _) = _
          rw [← HBI.out, if_pos rfl]
        have HST := Lib.hid hst
        clear hst
        go_wp2_with fail
        go_roundw
        case rel =>
          refine ⟨k + 1, acc ++ [null], rest, A0, c0, by omega, by go_num, by simp [HACC.out], rfl, hc0, hrd, hrl, HST.out, ?_, hmp, hbel⟩
          have e : acc ++ [null] ++ List.replicate (n - (k + 1)) null = acc ++ List.replicate (n - k) null := by
            rw [show n - k = (n - (k + 1)) + 1 by omega, List.replicate_succ, List.append_assoc]; rfl
          rw [e]; exact hown
        case measure => simp [intOf]; omega
      have hst : rget T b = if (vread t rest).2.2 ≠ 0 then ([], (vread t rest).2.2) else rvals b (k + 1) (T.drop (k + 1)) (acc ++ [(vread t rest).1]) (rest.drop (vread t rest).2.1) := by
        rw [HRV.out, HTD.out]
        show (if bitAt b k then _ else _) = _
        rw [← HBI.out, if_neg (by simp)]
      have HST := Lib.hid hst
      have hvl := vread_le t rest
      have G0 := fun (w' : World) (h : Rd w' B A0 (cells rest)) (hB' : B ≤ w'.heap.size) => get_any t h123 B A0 c0 rest w' h hc0 hB' (by omega)
      have hsl0 : ∀ u, u ≤ rest.length → _ := fun u hu => from_any (w := wr) (B := B) (A := A0) (l := rest) c0 u hu hc0 hrd
      have hent := get_enters t.toNat h123
      have hat := look_way t.toNat h123
      obtain ⟨f, hf⟩ : ∃ f, f = get_no t.toNat := ⟨_, rfl⟩
      rw [← hf] at G0 hent hat
      generalize vread t rest = x at *
      obtain ⟨v, kk, er⟩ := x
      dsimp only at hvl hst
      have HG := Lib.hid G0
      have HAT := Lib.hid hat
      have HSL := Lib.hid hsl0
      have HST := Lib.hid hst
      have ht256 := t.toNat_lt
      have hs6 := hb0.size
      have hBr : B ≤ wr.heap.size := Nat.le_trans hB hs6
      have hfl := fun w => field_get (put_no t.toNat) f w
      clear G0 hat hf hsl0 hst h123
      go_wp2_with (at_lookup; refine wpList_lookup_tab _ rfl _ _ 73 rfl 5 79 law8 Try.underlying73 wayE (zeroWay _) zway [] rfl mb 3 wtab rfl hmp _ _ rfl (key8N t.toNat (by omega)) (wv (put_no t.toNat) f) (fun vf ps hvf => wayE_inv (hvf.trans (by rw [HAT.out]))) ?_)
      refine (HG.out _ hrd (by omega)).mono ?_; rintro e w6 ⟨rfl, hb6⟩
      have hb06 : Below w.heap.size w w6 := hb0.trans (hb6.mono hs6)
      dsimp only
      by_cases her : er = 0
      case neg =>
        have he : rget T b = ([], er) := by rw [HST.out, if_pos her]
        have HE := Lib.hid he
        have herI : ((er : Int) != 0) = true := by simp; omega
        clear he her
        go_wp2_with fail
        go_ret2
        exact retVE_err HE.out (hb06.alloc hb06.size _)
      have hst2 : rget T b = rvals b (k + 1) (T.drop (k + 1)) (acc ++ [v]) (rest.drop kk) := by rw [HST.out, if_neg (by simpa using her)]
      have HST2 := Lib.hid hst2
      have hkk : kk ≤ rest.length := by
        rcases hvl with h | h | h
        · exact h.1
        · exact absurd her h
        · unfold maxLen at h; omega
      have herI : ((er : Int) != 0) = false := by simp; omega
      obtain ⟨A6, c6, hsl6, hrd6, hc6⟩ := HSL.out kk hkk
      have hsl7 := fun w' => hsl6 w' (kk : Int) rfl
      obtain ⟨w7, hw7⟩ : ∃ w7, w7 = w6.alloc (.cells #[.int .u8 (v.k : Int), .int .i64 v.n, txt v.t] 46) := ⟨_, rfl⟩
      have hown7 : w7.ownsRow (w.heap.size + 1) 46 3 (.slice (some ⟨w.heap.size + 1, 0, none⟩) n n) n (vcells (acc ++ List.replicate (n - k) null)) := by rw [hw7]; exact (own_bel hown hb6).alloc _
      have hmap7 : w7.ownsMap Try.prog 5 wayE mb 3 wtab := by rw [hw7]; exact (map_bel hmp hb6 (lt_of_map hmp)).alloc _
      have hb7 : Below w3.heap.size w3 w7 := by rw [hw7]; exact (hbel.trans (hb6.mono hbel.size)).alloc (by have := hbel.size; have := hb6.size; omega) _
      have hrd7 : Rd w7 B A6 (cells (rest.drop kk)) := by rw [hw7]; exact (hrd6.below (hb6.mono hBr)).alloc (Nat.le_trans hBr hb6.size) _
      have ca := hown7.cellAt (k * 3) (by omega)
      have cb := hown7.cellAt (k * 3 + 1) (by omega)
      have cc := hown7.cellAt (k * 3 + 2) (by omega)
      have hll : (acc ++ List.replicate (n - k) null)[k]? = some null := by
        rw [List.getElem?_append_right (by rw [HACC.out]; omega), HACC.out, Nat.sub_self, List.getElem?_replicate, if_pos (by omega)]
      obtain ⟨e1, e2, e3⟩ := vcells_at _ _ _ hll
      rw [e1] at ca; rw [e2] at cb; rw [e3] at cc
      have fa := hown7.frozenAt (k * 3)
      have fb := hown7.frozenAt (k * 3 + 1)
      have fc := hown7.frozenAt (k * 3 + 2)
      obtain ⟨d0, d1, d2⟩ := cv_block w6 (.int .u8 (v.k : Int)) (.int .i64 v.n) (txt v.t) 46
      rw [← hw7] at d0 d1 d2
      have hz7 : w7.heap.size = w6.heap.size + 1 := by rw [hw7]; simp
      clear hst2 her hvl HST hsl6 e1 e2 e3
      go_wp2_with fail
      rw [← hw7]
      clear hS hw7
      refine ah_start 9 (fun w' => True) rfl (by kernel_rfl) trivial ?_ ; intro hS
      (refine mv_val 0 (v := ?_) rfl (by kernel_rfl) (by kernel_rfl) (by kernel_rfl) (fun _ _ _ h => h) (by rfl) hS ?_ ?_; rotate_left; (focus (intro w hSw; (try dsimp only at hSw); (have f1 := hsl7 w; have f2 := hlt; have f3 := hkI); go_simp; first | done | with_reducible rfl)); simp only [Act.put, List.setIfInBounds_toArray, List.set_cons_zero, List.set_cons_succ])
      (refine mv_val 1 (v := ?_) rfl (by kernel_rfl) (by kernel_rfl) (by kernel_rfl) (fun _ _ _ h => h) (by rfl) hS ?_ ?_; rotate_left; (focus (intro w hSw; (try dsimp only at hSw); (have f1 := hsl7 w; have f2 := hlt; have f3 := hkI); go_simp; first | done | with_reducible rfl)); simp only [Act.put, List.setIfInBounds_toArray, List.set_cons_zero, List.set_cons_succ])
      (refine mv_val 3 (v := ?_) rfl (by kernel_rfl) (by kernel_rfl) (by kernel_rfl) (fun _ _ _ h => h) (by rfl) hS ?_ ?_; rotate_left; (focus (intro w hSw; (try dsimp only at hSw); (have f1 := hsl7 w; have f2 := hlt; have f3 := hkI); go_simp; first | done | with_reducible rfl)); simp only [Act.put, List.setIfInBounds_toArray, List.set_cons_zero, List.set_cons_succ])
      (refine mv_val 4 (v := ?_) rfl (by kernel_rfl) (by kernel_rfl) (by kernel_rfl) (fun _ _ _ h => h) (by rfl) hS ?_ ?_; rotate_left; (focus (intro w hSw; (try dsimp only at hSw); (have f1 := hsl7 w; have f2 := hlt; have f3 := hkI); go_simp; first | done | with_reducible rfl)); simp only [Act.put, List.setIfInBounds_toArray, List.set_cons_zero, List.set_cons_succ])
      (refine mv_val 5 (v := ?_) rfl (by kernel_rfl) (by kernel_rfl) (by kernel_rfl) (fun _ _ _ h => h) (by rfl) hS ?_ ?_; rotate_left; (focus (intro w hSw; (try dsimp only at hSw); (have f1 := hsl7 w; have f2 := hlt; have f3 := hkI); go_simp; first | done | with_reducible rfl)); simp only [Act.put, List.setIfInBounds_toArray, List.set_cons_zero, List.set_cons_succ])
      refine mv_step 2 rfl (by kernel_rfl) (by rfl) (fun K hK => ?_)
      go_simp
      refine hK _ _ ?_ ?_ <;> clear hK K
      · trivial
      try simp only [Act.put, List.setIfInBounds_toArray, List.set_cons_zero, List.set_cons_succ]
      (refine mv_val 6 (v := ?_) rfl (by kernel_rfl) (by kernel_rfl) (by kernel_rfl) (fun _ _ _ h => h) (by rfl) hS ?_ ?_; rotate_left; (focus (intro w hSw; (try dsimp only at hSw); (have f1 := hsl7 w; have f2 := hlt; have f3 := hkI); go_simp; first | done | with_reducible rfl)); simp only [Act.put, List.setIfInBounds_toArray, List.set_cons_zero, List.set_cons_succ])
      refine mv_step 7 rfl (by kernel_rfl) (by rfl) (fun K hK => ?_)
      go_simp
      refine hK _ _ ?_ ?_ <;> clear hK K
      · trivial
      try simp only [Act.put, List.setIfInBounds_toArray, List.set_cons_zero, List.set_cons_succ]
      (refine mv_val 8 (v := ?_) rfl (by kernel_rfl) (by kernel_rfl) (by kernel_rfl) (fun _ _ _ h => h) (by rfl) hS ?_ ?_; rotate_left; (focus (intro w hSw; (try dsimp only at hSw); (have f1 := hsl7 w; have f2 := hlt; have f3 := hkI); go_simp; first | done | with_reducible rfl)); simp only [Act.put, List.setIfInBounds_toArray, List.set_cons_zero, List.set_cons_succ])
      refine wpAnyH_done (by kernel_rfl) ?_ _
      go_wp2_with fail
      go_roundw
      case rel =>
        refine ⟨k + 1, acc ++ [v], rest.drop kk, A6, c6, by omega, by go_num, by simp [HACC.out], by rw [List.length_drop], hc6, ?_, by rw [List.length_drop]; omega, HST2.out, ?_, ?_, ?_⟩
        · exact hrd7.below ((((Below.refl B w7).setCell (p := ⟨w.heap.size + 1, k * 3, none⟩) (by show _ ≤ w.heap.size + 1; omega) _).setCell (p := ⟨w.heap.size + 1, k * 3 + 1, none⟩) (by show _ ≤ w.heap.size + 1; omega) _).setCell (p := ⟨w.heap.size + 1, k * 3 + 2, none⟩) (by show _ ≤ w.heap.size + 1; omega) _).drew
        · have h := own_set3 (l := acc ++ List.replicate (n - k) null) (i := k) hown7 v (by rw [List.length_append, List.length_replicate, HACC.out]; omega)
          have e : (acc ++ List.replicate (n - k) null).set k v = acc ++ [v] ++ List.replicate (n - (k + 1)) null := by
            rw [List.set_append_right _ _ (by rw [HACC.out]; omega), HACC.out, Nat.sub_self, show n - k = (n - (k + 1)) + 1 by omega, List.replicate_succ, List.append_assoc]; rfl
          rw [e] at h
          exact h
        · have hnm := own_ne_map hown7 hmap7
          exact ((hmap7.setCell (a := ⟨w.heap.size + 1, k * 3, none⟩) (fun e => hnm (by simp [Value.ownBlock, e])) _).setCell (a := ⟨w.heap.size + 1, k * 3 + 1, none⟩) (fun e => hnm (by simp [Value.ownBlock, e])) _).setCell (a := ⟨w.heap.size + 1, k * 3 + 2, none⟩) (fun e => hnm (by simp [Value.ownBlock, e])) _
        · exact (((hb7.setCell (p := ⟨w.heap.size + 1, k * 3, none⟩) (by show _ ≤ w.heap.size + 1; omega) _).setCell (p := ⟨w.heap.size + 1, k * 3 + 1, none⟩) (by show _ ≤ w.heap.size + 1; omega) _).setCell (p := ⟨w.heap.size + 1, k * 3 + 2, none⟩) (by show _ ≤ w.heap.size + 1; omega) _).drew
      case measure => simp [intOf]; omega
end Go.Proofs.Ythkpgjcnnfdibaa.Rw

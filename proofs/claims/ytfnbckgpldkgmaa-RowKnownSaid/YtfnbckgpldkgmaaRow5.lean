/- The walk of row.Put (layer 4): it answers rput, in new memory. For values whose texts are short, and few of them. -/
import Derived.Test.YtfnbckgpldkgmaaRow4
import Derived.Test.YtfnbckgpldkgmaaRowP2
namespace Go.Proofs.Ytfnbckgpldkgmaa
open Go.RowKit Go.Maps
set_option linter.unusedVariables false
set_option linter.unusedSimpArgs false

def put_no (k : Nat) : Nat := if k = 1 then 25 else if k = 2 then 27 else 33
def get_no (k : Nat) : Nat := if k = 1 then 26 else if k = 2 then 30 else 34
theorem key8N (k : Nat) (h : k < 256) : keyOf Try.prog 5 (.int .u8 (k : Int)) = some (tk (k : Int)) := keyOf_int_mk Try.underlying5 (by
  simp [Lit.wf, IntKind.min, IntKind.max, IntKind.signed, IntKind.bits]; omega)
theorem look_way (k : Nat) (h : k = 1 ∨ k = 2 ∨ k = 3) : DataW.atKey wtab (tk (k : Int)) zway = wd (put_no k) (get_no k) := by
  rcases h with rfl | rfl | rfl <;> rfl
theorem put_enters (k : Nat) (h : k = 1 ∨ k = 2 ∨ k = 3) (args : Array Value) (w : World) : (callFunc (put_no k) args).run Try.prog w = .ok (.enter (put_no k) args) w := by
  rcases h with rfl | rfl | rfl <;> kernel_rfl
theorem get_enters (k : Nat) (h : k = 1 ∨ k = 2 ∨ k = 3) (args : Array Value) (w : World) : (callFunc (get_no k) args).run Try.prog w = .ok (.enter (get_no k) args) w := by
  rcases h with rfl | rfl | rfl <;> kernel_rfl
theorem mayB_k {v : V} (h : mayB v = true) : (v.k = 0 ∧ v = null) ∨ (v.k = 1 ∧ (v.n = 0 ∨ v.n = 1) ∧ v.t = []) ∨ (v.k = 2 ∧ v.t = []) ∨ (v.k = 3 ∧ v.n = 0) := by
  obtain ⟨k, n, t⟩ := v
  rw [mayB_cases] at h
  dsimp only at h ⊢
  by_cases h0 : k = 0
  · rw [if_pos h0] at h
    simp at h
    obtain ⟨rfl, rfl⟩ := h
    subst h0
    exact .inl ⟨rfl, rfl⟩
  rw [if_neg h0] at h
  by_cases h1 : k = 1
  · rw [if_pos h1] at h
    simp at h
    exact .inr (.inl ⟨h1, h.1, h.2⟩)
  rw [if_neg h1] at h
  by_cases h2 : k = 2
  · rw [if_pos h2] at h
    simp at h
    exact .inr (.inr (.inl ⟨h2, h⟩))
  rw [if_neg h2] at h
  by_cases h3 : k = 3
  · rw [if_pos h3] at h
    simp at h
    exact .inr (.inr (.inr ⟨h3, h⟩))
  rw [if_neg h3] at h
  cases h
theorem put_any (v : V) (hm : mayB v = true) (h0 : v.k ≠ 0) (hn : i64r v.n) (ht : v.t.length ≤ 4294967296)
    (base : Nat) (A : Option Addr) (c : Nat) (b : List UInt8) (w : World) (hown : w.ownsRow base 5 1 (.slice A b.length c) b.length (cells b)) (hbase : base ≤ w.heap.size) (hlen : b.length ≤ 4294967296) :
    Calls Try.prog (put_no v.k) #[.slice A b.length c, va v] w (RetG w base (.slice A b.length c) (b ++ vone v)) := by
  obtain ⟨k, n, t⟩ := v
  dsimp only at h0 hn ht ⊢
  rcases mayB_k hm with ⟨h, _⟩ | ⟨h1, hn1, h2⟩ | ⟨h1, h2⟩ | ⟨h1, h2⟩
  · exact absurd h h0
  · dsimp only at h1 hn1 h2
    subst h1
    rcases hn1 with rfl | rfl
    · exact put1_any base A c b w hown hbase hlen 0 t (.inl rfl)
    · exact put1_any base A c b w hown hbase hlen 1 t (.inr rfl)
  · dsimp only at h1
    subst h1
    exact put2_any base A c b w hown hbase hlen n t hn
  · dsimp only at h1
    subst h1
    exact put3_any base A c b w hown hbase hlen n t ht
theorem field_put (a b : Nat) (w : World) : (Instr.field 47 (wv a b) 0).run Try.prog w = .ok (.func (.func a) #[] #[]) w := by kernel_rfl
theorem field_get (a b : Nat) (w : World) : (Instr.field 47 (wv a b) 1).run Try.prog w = .ok (.func (.func b) #[] #[]) w := by kernel_rfl
theorem own_some {w : World} {base n : Nat} {v : Value} {l : List UInt8} (h : w.ownsRow base 5 1 v n (cells l)) (hn : 0 < n) : ∃ g cap, v = .slice (some ⟨g, 0, none⟩) n cap ∧ base ≤ g ∧ g < w.heap.size := by
  rcases h.2 with ⟨hv, hz⟩ | ⟨g, cap, cur, hv, hb, hh, _⟩
  · omega
  · exact ⟨g, cap, hv, hb, (Array.getElem?_eq_some_iff.1 hh).1⟩
theorem map_same {H : Type} {P : Program} {k : TypeId} {R : Value → Option (DataW H × List MemPlace)} {w w' : World} {b n : Nat} {D : DataW H} (h : w.ownsMap P k R b n D) (hb : w'.heap[b]? = w.heap[b]?) : w'.ownsMap P k R b n D := by
  obtain ⟨es, clock, h1, rest⟩ := h
  exact ⟨es, clock, hb.trans h1, rest⟩

theorem shl8 (r : Nat) (hr : r < 8) (w : World) : (Op.shift .shl .u8 1 .i64 (r : Int)).run Try.prog w = .ok (.int .u8 ((2 ^ r : Nat) : Int)) w := by
  rcases (by omega : r = 0 ∨ r = 1 ∨ r = 2 ∨ r = 3 ∨ r = 4 ∨ r = 5 ∨ r = 6 ∨ r = 7) with rfl | rfl | rfl | rfl | rfl | rfl | rfl | rfl <;> kernel_rfl
theorem or8 (x y : Nat) (hx : x < 256) (hy : y < 256) : bits .or .u8 (x : Int) (y : Int) = ((x ||| y : Nat) : Int) := by
  rw [u8_or _ _ (by omega) (by omega) (by omega) (by omega)]
  simp
set_option maxHeartbeats 4000000 in
set_option maxRecDepth 100000 in
theorem Put_row (B : Nat) (A A' : Option Addr) (c c' : Nat) (T : List UInt8) (l : List V) (w : World) (hT : Rd w B A (cells T)) (hl : Rd w B A' (vcells l)) (hB : B ≤ w.heap.size)
    (hTl : T.length ≤ 4294967296) (hll : l.length ≤ 4294967296) (hok : ∀ v ∈ l, v.k < 256 ∧ i64r v.n ∧ v.t.length ≤ 1000000) (hlen : (rbytes l).length ≤ 4294967296) :
    Calls Try.prog 10 #[.slice A T.length c, .slice A' l.length c'] w (RetBE w (rput T l)) := by
  have K0 := fun w h => known_any B A c T w h (by unfold maxLen; omega)
  obtain ⟨kn, hkn⟩ : ∃ x, x = knownT T := ⟨_, rfl⟩
  rw [← hkn] at K0
  have HK := Lib.hid K0
  have HKN := Lib.hid hkn
  clear K0 hkn
  cases kn
  case false =>
    have he : rput T l = ([], 1) := by unfold rput; rw [← HKN.out]; rfl
    have HE := Lib.hid he
    clear he
    go_enter Try.func10, Try.ntmps10
    go_wp2_with fail
    refine (HK.out _ hT).mono ?_; rintro e w1 ⟨rfl, rfl⟩
    go_wp2_with fail
    go_ret2
    exact retBE_err HE.out (Below.refl _ _)
  by_cases hlm : l.length = T.length
  case neg =>
    have he : rput T l = ([], 1) := by unfold rput rowok; rw [← HKN.out]; simp [hlm]
    have HE := Lib.hid he
    have hI : ((l.length : Int) != (T.length : Int)) = true := by simp; omega
    clear he hlm
    go_enter Try.func10, Try.ntmps10
    go_wp2_with fail
    refine (HK.out _ hT).mono ?_; rintro e w1 ⟨rfl, rfl⟩
    go_wp2_with fail
    go_ret2
    exact retBE_err HE.out (Below.refl _ _)
  have hrp : rput T l = if mays T l then (rbytes l, 0) else ([], 1) := by unfold rput rowok; rw [← HKN.out]; simp [hlm]
  have HRP := Lib.hid hrp
  obtain ⟨n, hn⟩ : ∃ n, n = l.length := ⟨_, rfl⟩
  have hn2 : T.length = n := by omega
  have h8l := size8_le l.length
  rw [← hn] at h8l
  rw [← hn, hn2]
  rw [hn2] at HK
  obtain ⟨m, hm⟩ : ∃ m, m = size8 n := ⟨_, rfl⟩
  have hmn : m ≤ n + 7 := by rw [hm]; unfold size8; omega
  have hmI : ((n : Int) + 7) / 8 = (m : Int) := by rw [hm]; unfold size8; omega
  have hm8 : n ≤ 8 * m := by omega
  have HN := Lib.hid hn
  have HN2 := Lib.hid hn2
  have HM := Lib.hid hm
  rw [← hn] at hll
  clear hlm hn hn2 hm hrp HKN hTl h8l
  obtain ⟨i0, hi, hz0, hz1, hz2⟩ := info_parts Try.infoU8
  obtain ⟨w1, hmk, hown, hg⟩ := run_make_full (P := Try.prog) w w.heap.size 22 5 i0 (.int .u8 0) 1 Try.underlying22 hi hz0 hz1 .i64 .i64 m (by rw [hz2]; omega) (by unfold maxLen; omega) (Nat.le_refl _)
  have hmk2 : (Instr.makeSlice 22 (.int .i64 (m : Int)) (.int .i64 (m : Int))).run Try.prog w = .ok (.slice (some ⟨w.heap.size, 0, none⟩) m m) w1 := hmk
  have hown1 : w1.ownsRow w.heap.size 5 1 (.slice (some ⟨w.heap.size, 0, none⟩) m m) m (List.replicate m (.int .u8 0)) := by
    have h := hown
    rwa [show (Value.int .u8 0).cells = #[.int .u8 0] from rfl, toList_madeCells_one, Nat.mul_one] at h
  have hb1 : Below w.heap.size w w1 := (Below.refl _ w).grown hg (Nat.le_refl _) (by simp)
  clear hmk hown hi hz0 hz1 hz2 hg
  go_enter Try.func10, Try.ntmps10
  go_wp2_with fail
  refine (HK.out _ hT).mono ?_; rintro e w0 ⟨rfl, rfl⟩
  go_wp2_with fail
  refine (ways_any _).mono ?_; rintro e w2 ⟨rfl, hmap, hb2⟩
  have hown2 := own_bel hown1 hb2
  have hb02 : Below w.heap.size w w2 := hb1.trans (hb2.mono hb1.size)
  obtain ⟨mb, hmb⟩ : ∃ mb, mb = w1.heap.size := ⟨_, rfl⟩
  rw [← hmb] at hmap ⊢
  have hmbw : w.heap.size ≤ mb := by rw [hmb]; exact hb1.size
  clear hmk2 hb2 hown1 hmb
  have hown3 : w2.ownsRow w.heap.size 5 1 (.slice (some ⟨w.heap.size, 0, none⟩) m m) (bsAt l 0).length (cells (bsAt l 0)) := by
    have e : bsAt l 0 = List.replicate m 0 := by rw [bsAt_0, ← HN.out, HM.out]
    have e2 : cells (bsAt l 0) = List.replicate m (.int .u8 0) := by rw [e]; simp [cells]
    rw [e2, e, List.length_replicate]; exact hown2
  have hlen2 : ∀ k, (bsAt l k).length ≤ 4294967296 := fun k => by
    have h1 := flatv_le l k
    have h2 : (rbytes l).length = size8 l.length + (l.flatMap vone).length := by unfold rbytes; rw [List.length_append, layP_length]
    rw [bsAt_len]; omega
  have hbspos : ∀ k, m ≤ (bsAt l k).length := fun k => by rw [bsAt_len, ← HN.out, ← HM.out]; omega
  have HL2 := Lib.hid hlen2
  have HPOS := Lib.hid hbspos
  clear hown2 hlen2 hbspos
  go_wp2_with fail
  go_loopw [6, 28] (fun v6 v28 wr => ∃ k : Nat, k ≤ n ∧ v28 = .int .i64 k ∧ maysTo T l k ∧ wr.ownsRow w.heap.size 5 1 v6 (bsAt l k).length (cells (bsAt l k)) ∧ wr.ownsMap Try.prog 5 wayE mb 3 wtab ∧ Below w.heap.size w wr) (fun _ v28 _ => n - (intOf v28).toNat)
  case atStart => exact ⟨0, by omega, rfl, maysTo_0 _ _, hown3, hmap, hb02⟩
  case round =>
    clear hown3 hmap hb02 hb1
    obtain ⟨k, hk, rfl, hto, hown, hmap, hbel⟩ := hrel
    have HTO := Lib.hid hto
    clear hto
    by_cases hlt : k < n
    case neg =>
      have hkn : k = n := by omega
      have he : rput T l = (bsAt l k, 0) := by
        rw [HRP.out, if_pos (maysTo_all HTO.out (by rw [← HN.out]; omega)), hkn, HN.out, bsAt_end]
      have HE := Lib.hid he
      subst hkn
      clear he
      go_wp2_with fail
      go_ret2
      exact retBE_ok HE.out hown hbel
    obtain ⟨bs, hbs⟩ : ∃ bs, bs = bsAt l k := ⟨_, rfl⟩
    rw [← hbs] at hown
    have hpos := HPOS.out k
    have hbl := HL2.out k
    rw [← hbs] at hpos hbl
    have HBS := Lib.hid hbs
    clear hbs
    obtain ⟨g, cap, rfl, hg1, hg2⟩ := own_some hown (by omega)
    obtain ⟨v, hv⟩ : ∃ v, l[k]? = some v := ⟨_, List.getElem?_eq_getElem (by rw [← HN.out]; exact hlt)⟩
    obtain ⟨t, ht⟩ : ∃ t, T[k]? = some t := ⟨_, List.getElem?_eq_getElem (by rw [HN2.out]; exact hlt)⟩
    obtain ⟨gb, go, rfl, hgb, q0, q1, q2⟩ := rd_val hl hv
    obtain ⟨hb, ho, rfl, hhb, hc⟩ := rd_cell hT (show k < T.length by rw [HN2.out]; exact hlt)
    have p0 := hc k (by rw [HN2.out]; exact hlt)
    rw [show T[k]'(by rw [HN2.out]; exact hlt) = t by rw [List.getElem?_eq_getElem (by rw [HN2.out]; exact hlt)] at ht; exact Option.some.inj ht] at p0
    have r0 := (hbel.cell (p := ⟨gb, go + k * 3, none⟩) (by show gb < _; omega)).trans q0
    have r1 := (hbel.cell (p := ⟨gb, go + k * 3 + 1, none⟩) (by show gb < _; omega)).trans q1
    have r2 := (hbel.cell (p := ⟨gb, go + k * 3 + 2, none⟩) (by show gb < _; omega)).trans q2
    have F2 : ∀ w', Below w.heap.size w w' → w'.cell? ⟨hb, ho + k, none⟩ = some (.int .u8 (t.toNat : Int)) := fun w' hbw => (hbw.cell (p := ⟨hb, ho + k, none⟩) (by show hb < _; omega)).trans p0
    have hkI : (k : Int) < (n : Int) := by omega
    have HV := Lib.hid hv
    have HT := Lib.hid ht
    obtain ⟨hvk, hvn, hvt⟩ := hok v (List.mem_of_getElem? hv)
    have M0 := fun w => rmay_any t v hvk hvn hvt w
    obtain ⟨my, hmy⟩ : ∃ x, x = rmay t v := ⟨_, rfl⟩
    rw [← hmy] at M0
    have HMY := Lib.hid hmy
    have HM0 := Lib.hid M0
    clear q0 q1 q2 p0 hc hv ht M0 hmy
    go_wp2_with fail
    obtain ⟨w3, hw3⟩ : ∃ w3, w3 = wr.alloc (.cells #[.int .u8 (v.k : Int), .int .i64 v.n, txt v.t] 37) := ⟨_, rfl⟩
    rw [← hw3]
    have hz3 : w3.heap.size = wr.heap.size + 1 := by rw [hw3]; simp
    have hb3 : Below w.heap.size w w3 := by rw [hw3]; exact hbel.alloc hbel.size _
    obtain ⟨c0, c1, c2⟩ := cv_block wr (.int .u8 (v.k : Int)) (.int .i64 v.n) (txt v.t) 37
    rw [← hw3] at c0 c1 c2
    have hown3 : w3.ownsRow w.heap.size 5 1 (.slice (some ⟨g, 0, none⟩) bs.length cap) bs.length (cells bs) := by rw [hw3]; exact hown.alloc _
    have hmap3 : w3.ownsMap Try.prog 5 wayE mb 3 wtab := by rw [hw3]; exact hmap.alloc _
    have hsr := hbel.size
    have D3 : ∀ w', Below w3.heap.size w3 w' → w'.cell? ⟨wr.heap.size, 0, none⟩ = some (.int .u8 (v.k : Int)) ∧ w'.cell? ⟨wr.heap.size, 1, none⟩ = some (.int .i64 v.n) ∧ w'.cell? ⟨wr.heap.size, 2, none⟩ = some (txt v.t) := fun w' h => ⟨cell_be c0 h (by show wr.heap.size < _; omega), cell_be c1 h (by show wr.heap.size < _; omega), cell_be c2 h (by show wr.heap.size < _; omega)⟩
    clear r0 r1 r2 c0 c1 c2 hw3 hown hmap
    refine ah_start 7 (fun w' => Below w3.heap.size w3 w') rfl (by kernel_rfl) (Below.refl _ _).drew ?_ ; intro hS
    (refine mv_val 0 (v := ?_) rfl (by kernel_rfl) (by kernel_rfl) (by kernel_rfl) (fun _ _ _ h => h) (by rfl) hS ?_ ?_; rotate_left; (focus (intro w hSw; (try dsimp only at hSw); (have f1 := (D3 w hSw).1; have f2 := (D3 w hSw).2.1; have f3 := (D3 w hSw).2.2; have f4 := F2 w (hb3.trans (hSw.mono hb3.size)); have f7 := hlt); go_simp; first | done | with_reducible rfl)); simp only [Act.put, List.setIfInBounds_toArray, List.set_cons_zero, List.set_cons_succ])
    (refine mv_val 1 (v := ?_) rfl (by kernel_rfl) (by kernel_rfl) (by kernel_rfl) (fun _ _ _ h => h) (by rfl) hS ?_ ?_; rotate_left; (focus (intro w hSw; (try dsimp only at hSw); (have f1 := (D3 w hSw).1; have f2 := (D3 w hSw).2.1; have f3 := (D3 w hSw).2.2; have f4 := F2 w (hb3.trans (hSw.mono hb3.size)); have f7 := hlt); go_simp; first | done | with_reducible rfl)); simp only [Act.put, List.setIfInBounds_toArray, List.set_cons_zero, List.set_cons_succ])
    (refine mv_val 2 (v := ?_) rfl (by kernel_rfl) (by kernel_rfl) (by kernel_rfl) (fun _ _ _ h => h) (by rfl) hS ?_ ?_; rotate_left; (focus (intro w hSw; (try dsimp only at hSw); (have f1 := (D3 w hSw).1; have f2 := (D3 w hSw).2.1; have f3 := (D3 w hSw).2.2; have f4 := F2 w (hb3.trans (hSw.mono hb3.size)); have f7 := hlt); go_simp; first | done | with_reducible rfl)); simp only [Act.put, List.setIfInBounds_toArray, List.set_cons_zero, List.set_cons_succ])
    (refine mv_val 3 (v := ?_) rfl (by kernel_rfl) (by kernel_rfl) (by kernel_rfl) (fun _ _ _ h => h) (by rfl) hS ?_ ?_; rotate_left; (focus (intro w hSw; (try dsimp only at hSw); (have f1 := (D3 w hSw).1; have f2 := (D3 w hSw).2.1; have f3 := (D3 w hSw).2.2; have f4 := F2 w (hb3.trans (hSw.mono hb3.size)); have f7 := hlt); go_simp; first | done | with_reducible rfl)); simp only [Act.put, List.setIfInBounds_toArray, List.set_cons_zero, List.set_cons_succ])
    (refine mv_val 4 (v := ?_) rfl (by kernel_rfl) (by kernel_rfl) (by kernel_rfl) (fun _ _ _ h => h) (by rfl) hS ?_ ?_; rotate_left; (focus (intro w hSw; (try dsimp only at hSw); (have f1 := (D3 w hSw).1; have f2 := (D3 w hSw).2.1; have f3 := (D3 w hSw).2.2; have f4 := F2 w (hb3.trans (hSw.mono hb3.size)); have f7 := hlt); go_simp; first | done | with_reducible rfl)); simp only [Act.put, List.setIfInBounds_toArray, List.set_cons_zero, List.set_cons_succ])
    (refine mv_call 5 (f := ?_) (args := ?_) rfl (by kernel_rfl) (by rfl) ?_ ?_; rotate_left 2; (focus (go_simp; first | done | with_reducible rfl | (refine ⟨?_, ?_⟩ <;> with_reducible rfl))))
    refine (HM0.out _).mono ?_; rintro e w4 ⟨rfl, hb4⟩
    have hS4 : Below w3.heap.size w3 w4 := hS.trans (hb4.mono hS.size)
    refine ⟨_, rfl, hS4, ?_⟩
    replace hS := hS4
    simp only [Act.put, List.setIfInBounds_toArray, List.set_cons_zero, List.set_cons_succ]
    (refine mv_val 6 (v := ?_) rfl (by kernel_rfl) (by kernel_rfl) (by kernel_rfl) (fun _ _ _ h => h) (by rfl) hS ?_ ?_; rotate_left; (focus (intro w hSw; (try dsimp only at hSw); (have f1 := (D3 w hSw).1; have f2 := (D3 w hSw).2.1; have f3 := (D3 w hSw).2.2; have f4 := F2 w (hb3.trans (hSw.mono hb3.size)); have f7 := hlt); go_simp; first | done | with_reducible rfl)); simp only [Act.put, List.setIfInBounds_toArray, List.set_cons_zero, List.set_cons_succ])
    refine wpAnyH_done (by kernel_rfl) ?_ _
    clear hS4
    have hb04 : Below w.heap.size w w4 := hb3.trans (hS.mono hb3.size)
    cases my
    case false =>
      have he : rput T l = ([], 1) := by rw [HRP.out, mays_no HT.out HV.out HMY.out.symm]; rfl
      have HE := Lib.hid he
      clear he
      go_wp2_with fail
      go_ret2
      exact retBE_err HE.out hb04
    have HTO2 := Lib.hid (maysTo_more HTO.out HT.out HV.out HMY.out.symm)
    have hown4 := own_bel hown3 hS
    have hmap4 := map_bel hmap3 hS (lt_of_map hmap3)
    obtain ⟨d0, d1, d2⟩ := D3 w4 hS
    clear D3 hown3 hmap3 hb4
    by_cases h0 : v.k = 0
    · have e0 : ((v.k : Int) == 0) = true := by simp; omega
      have HB := Lib.hid (bsAt_null HV.out h0)
      have hget := bsAt_get (l := l) (k := k) (by rw [← HN.out]; exact hlt)
      rw [← HBS.out] at hget
      obtain ⟨x, hx⟩ : ∃ x, x = byAt l k := ⟨_, rfl⟩
      have hx256 : x < 256 := by rw [hx]; exact byAt_lt _ _
      rw [← hx] at hget
      obtain ⟨j, hj⟩ : ∃ j, j = k / 8 := ⟨_, rfl⟩
      obtain ⟨r, hr⟩ : ∃ r, r = k % 8 := ⟨_, rfl⟩
      have hjI : (k : Int) / 8 = (j : Int) := by omega
      have hrI : (k : Int) % 8 = (r : Int) := by omega
      have hr8 : r < 8 := by omega
      have hjL : j < bs.length := by omega
      rw [← hj] at hget
      have hcell : w4.cell? ⟨g, j, none⟩ = some (.int .u8 (x : Int)) := by
        rw [hown4.cellAt j (by omega), List.getElem?_map, hget]
        simp [b8, toNat_toUInt8 hx256]
      have hfr : w4.frozen? ⟨g, j, none⟩ = false := hown4.frozenAt j
      have HX := Lib.hid hx
      have HJ := Lib.hid hj
      have HR := Lib.hid hr
      have hg4 : g < w4.heap.size := by have := hS.size; omega
      clear hx hj hr hget h0
      go_wp2_with fail
      have hjLI : (j : Int) < (bs.length : Int) := by omega
      have hwj : IntKind.i64.wrap (j : Int) = (j : Int) := by rw [IntKind.wrap_i64]; omega
      have htm : (k : Int).tmod 8 = (r : Int) := by rw [Int.tmod_eq_emod_of_nonneg (by omega)]; omega
      have hsh := fun w => shl8 r hr8 w
      have hor := or8 x (2 ^ r) hx256 (by have := Nat.pow_lt_pow_right (a := 2) (by omega) hr8; omega)
      refine ah_start 11 (fun w' => True) rfl (by kernel_rfl) trivial ?_ ; clear hS; intro hS
      (refine mv_val 0 (v := ?_) rfl (by kernel_rfl) (by kernel_rfl) (by kernel_rfl) (fun _ _ _ h => h) (by rfl) hS ?_ ?_; rotate_left; (focus (intro w hSw; (try dsimp only at hSw); (have f2 := hjL; have f3 := hjI; have f4 := hrI; have f5 := hjLI; have f6 := hr8; have f7 := hwj; have f8 := htm; have f9 := hsh w; have f10 := hor); go_simp; first | done | with_reducible rfl)); simp only [Act.put, List.setIfInBounds_toArray, List.set_cons_zero, List.set_cons_succ])
      (refine mv_val 1 (v := ?_) rfl (by kernel_rfl) (by kernel_rfl) (by kernel_rfl) (fun _ _ _ h => h) (by rfl) hS ?_ ?_; rotate_left; (focus (intro w hSw; (try dsimp only at hSw); (have f2 := hjL; have f3 := hjI; have f4 := hrI; have f5 := hjLI; have f6 := hr8; have f7 := hwj; have f8 := htm; have f9 := hsh w; have f10 := hor); go_simp; first | done | with_reducible rfl)); simp only [Act.put, List.setIfInBounds_toArray, List.set_cons_zero, List.set_cons_succ])
      (refine mv_val 2 (v := ?_) rfl (by kernel_rfl) (by kernel_rfl) (by kernel_rfl) (fun _ _ _ h => h) (by rfl) hS ?_ ?_; rotate_left; (focus (intro w hSw; (try dsimp only at hSw); (have f2 := hjL; have f3 := hjI; have f4 := hrI; have f5 := hjLI; have f6 := hr8; have f7 := hwj; have f8 := htm; have f9 := hsh w; have f10 := hor); go_simp; first | done | with_reducible rfl)); simp only [Act.put, List.setIfInBounds_toArray, List.set_cons_zero, List.set_cons_succ])
      (refine mv_val 3 (v := ?_) rfl (by kernel_rfl) (by kernel_rfl) (by kernel_rfl) (fun _ _ _ h => h) (by rfl) hS ?_ ?_; rotate_left; (focus (intro w hSw; (try dsimp only at hSw); (have f2 := hjL; have f3 := hjI; have f4 := hrI; have f5 := hjLI; have f6 := hr8; have f7 := hwj; have f8 := htm; have f9 := hsh w; have f10 := hor); go_simp; first | done | with_reducible rfl)); simp only [Act.put, List.setIfInBounds_toArray, List.set_cons_zero, List.set_cons_succ])
      (refine mv_val 5 (v := ?_) rfl (by kernel_rfl) (by kernel_rfl) (by kernel_rfl) (fun _ _ _ h => h) (by rfl) hS ?_ ?_; rotate_left; (focus (intro w hSw; (try dsimp only at hSw); (have f2 := hjL; have f3 := hjI; have f4 := hrI; have f5 := hjLI; have f6 := hr8; have f7 := hwj; have f8 := htm; have f9 := hsh w; have f10 := hor); go_simp; first | done | with_reducible rfl)); simp only [Act.put, List.setIfInBounds_toArray, List.set_cons_zero, List.set_cons_succ])
      (refine mv_val 6 (v := ?_) rfl (by kernel_rfl) (by kernel_rfl) (by kernel_rfl) (fun _ _ _ h => h) (by rfl) hS ?_ ?_; rotate_left; (focus (intro w hSw; (try dsimp only at hSw); (have f2 := hjL; have f3 := hjI; have f4 := hrI; have f5 := hjLI; have f6 := hr8; have f7 := hwj; have f8 := htm; have f9 := hsh w; have f10 := hor); go_simp; first | done | with_reducible rfl)); simp only [Act.put, List.setIfInBounds_toArray, List.set_cons_zero, List.set_cons_succ])
      (refine mv_val 7 (v := ?_) rfl (by kernel_rfl) (by kernel_rfl) (by kernel_rfl) (fun _ _ _ h => h) (by rfl) hS ?_ ?_; rotate_left; (focus (intro w hSw; (try dsimp only at hSw); (have f2 := hjL; have f3 := hjI; have f4 := hrI; have f5 := hjLI; have f6 := hr8; have f7 := hwj; have f8 := htm; have f9 := hsh w; have f10 := hor); go_simp; first | done | with_reducible rfl)); simp only [Act.put, List.setIfInBounds_toArray, List.set_cons_zero, List.set_cons_succ])
      refine mv_step 4 rfl (by kernel_rfl) (by rfl) (fun K hK => ?_)
      go_simp
      refine hK _ _ ?_ ?_ <;> clear hK K
      · trivial
      try simp only [Act.put, List.setIfInBounds_toArray, List.set_cons_zero, List.set_cons_succ]
      (refine mv_val 8 (v := ?_) rfl (by kernel_rfl) (by kernel_rfl) (by kernel_rfl) (fun _ _ _ h => h) (by rfl) hS ?_ ?_; rotate_left; (focus (intro w hSw; (try dsimp only at hSw); (have f2 := hjL; have f3 := hjI; have f4 := hrI; have f5 := hjLI; have f6 := hr8; have f7 := hwj; have f8 := htm; have f9 := hsh w; have f10 := hor); go_simp; first | done | with_reducible rfl)); simp only [Act.put, List.setIfInBounds_toArray, List.set_cons_zero, List.set_cons_succ])
      (refine mv_val 9 (v := ?_) rfl (by kernel_rfl) (by kernel_rfl) (by kernel_rfl) (fun _ _ _ h => h) (by rfl) hS ?_ ?_; rotate_left; (focus (intro w hSw; (try dsimp only at hSw); (have f2 := hjL; have f3 := hjI; have f4 := hrI; have f5 := hjLI; have f6 := hr8; have f7 := hwj; have f8 := htm; have f9 := hsh w; have f10 := hor); go_simp; first | done | with_reducible rfl)); simp only [Act.put, List.setIfInBounds_toArray, List.set_cons_zero, List.set_cons_succ])
      refine mv_step 10 rfl (by kernel_rfl) (by rfl) (fun K hK => ?_)
      go_simp
      refine hK _ _ ?_ ?_ <;> clear hK K
      · trivial
      try simp only [Act.put, List.setIfInBounds_toArray, List.set_cons_zero, List.set_cons_succ]
      refine wpAnyH_done (by kernel_rfl) ?_ _
      go_wp2_with fail
      go_roundw
      case rel =>
        refine ⟨k + 1, by omega, by go_num, HTO2.out, ?_, ?_, ?_⟩
        · have h1 := (hown4.stored j (.int .u8 (bits .or .u8 (x : Int) ((2 : Int) ^ r % 256)))).1
          have e1 : (2 : Int) ^ r % 256 = ((2 ^ r : Nat) : Int) := by
            have h256 : 2 ^ r < 256 := Nat.pow_lt_pow_right (a := 2) (by omega) hr8
            rw [show ((2 : Int) ^ r) = ((2 ^ r : Nat) : Int) by simp]
            exact Int.emod_eq_of_lt (Int.natCast_nonneg _) (Int.ofNat_lt.2 h256)
          have hx2 : x ||| 2 ^ r < 256 := Nat.or_lt_two_pow (n := 8) hx256 (Nat.pow_lt_pow_right (by omega) hr8)
          have e2 : Value.int .u8 (bits .or .u8 (x : Int) ((2 : Int) ^ r % 256)) = b8 (x ||| 2 ^ r).toUInt8 := by
            rw [e1, hor]; unfold b8; rw [toNat_toUInt8 hx2]
          have e3 : bsAt l (k + 1) = bs.set j (x ||| 2 ^ r).toUInt8 := by rw [HB.out, HBS.out, HJ.out, HX.out, HR.out]
          rw [e2] at h1 ⊢
          rw [e3, List.length_set, show cells (bs.set j (x ||| 2 ^ r).toUInt8) = (cells bs).set j (b8 (x ||| 2 ^ r).toUInt8) by unfold cells; rw [List.map_set]]
          exact h1
        · exact hmap4.setCell (a := ⟨g, j, none⟩) (fun e => own_ne_map hown4 hmap4 (by simp [Value.ownBlock, e])) _
        · exact (hb04.setCell (p := ⟨g, j, none⟩) hg1 _).drew
      case measure => simp [intOf]; omega
    · have e0 : ((v.k : Int) == 0) = false := by simp; omega
      have hmy : mayB v = true := by
        have := HMY.out.symm
        unfold rmay at this
        rw [Bool.and_eq_true] at this; exact this.1
      have hk3 : v.k = 1 ∨ v.k = 2 ∨ v.k = 3 := by rcases mayB_k hmy with h | h | h | h <;> omega
      have hat := look_way v.k hk3
      have hent := put_enters v.k hk3
      have P0 := fun w1 hown => fun hbase => put_any v hmy h0 hvn (by omega) w.heap.size (some ⟨g, 0, none⟩) cap bs w1 hown hbase hbl
      obtain ⟨f, hf⟩ : ∃ f, f = put_no v.k := ⟨_, rfl⟩
      rw [← hf] at hat hent P0
      have HP := Lib.hid P0
      have HAT := Lib.hid hat
      have HB := Lib.hid (bsAt_val HV.out h0)
      rw [← HBS.out] at HB
      clear P0 hat hf hmy hk3 h0
      have hs4 : w.heap.size ≤ w4.heap.size := hb04.size
      have hfl := fun w => field_put f (get_no v.k) w
      go_wp2_with (at_lookup; refine wpList_lookup_tab _ rfl _ _ 41 rfl 5 47 law8 Try.underlying41 wayE (zeroWay _) zway [] rfl mb 3 wtab rfl hmap4 _ _ rfl (key8N v.k hvk) (wv f (get_no v.k)) (fun vf ps hvf => wayE_inv (hvf.trans (by rw [HAT.out]))) ?_)
      refine (HP.out _ hown4 hs4).mono ?_; rintro e w5 ⟨v5, rfl, hown5, hb5, hk5⟩
      have hmap5 := map_same hmap4 (hk5 mb (lt_of_map hmap4) (own_ne_map hown4 hmap4))
      go_wp2_with fail
      go_roundw
      case rel =>
        refine ⟨k + 1, by omega, by go_num, HTO2.out, ?_, hmap5, hb04.trans hb5⟩
        rw [HB.out]; exact hown5
      case measure => simp [intOf]; omega
end Go.Proofs.Ytfnbckgpldkgmaa

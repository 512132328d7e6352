/- The walk of key.Append (layer 3): it answers kapp, in new memory. For bytes of at most 2^32 in all. -/
import Derived.Test.YtfnbckgpldkgmaaKey1
namespace Go.Proofs.Ytfnbckgpldkgmaa
open Go.RowKit
set_option linter.unusedVariables false
set_option linter.unusedSimpArgs false

/-- What a call that answers bytes and an error leaves. -/
def RetBE (w : World) (r : List UInt8 × Nat) (e : Ending) (w' : World) : Prop :=
  ∃ A c, e = .returned (.tuple #[.slice A r.1.length c, .int .i64 (r.2 : Int)]) ∧ w'.ownsRow w.heap.size 5 1 (.slice A r.1.length c) r.1.length (cells r.1) ∧ Below w.heap.size w w'
theorem retBE_err {w w' : World} {r : List UInt8 × Nat} {x : Nat} (h : r = ([], x)) (hb : Below w.heap.size w w') : RetBE w r (.returned (.tuple #[.slice none 0 0, .int .i64 (x : Int)])) w' := by
  subst h
  exact ⟨none, 0, rfl, World.ownsRow_nil _ _ _ _, hb⟩
theorem retBE_ok {w w' : World} {r : List UInt8 × Nat} {l : List UInt8} {v : Value} (h : r = (l, 0)) (ho : w'.ownsRow w.heap.size 5 1 v l.length (cells l)) (hb : Below w.heap.size w w') : RetBE w r (.returned (.tuple #[v, .int .i64 0])) w' := by
  subst h
  obtain ⟨A, c, rfl, _⟩ := own_form ho
  exact ⟨A, c, rfl, ho, hb⟩
theorem own_bel {w w' : World} {base : Nat} {e : TypeId} {sz n : Nat} {v : Value} {xs : List Value} (h : w.ownsRow base e sz v n xs) (hb : Below w.heap.size w w') : w'.ownsRow base e sz v n xs := by
  obtain ⟨h1, h2⟩ := h
  refine ⟨h1, ?_⟩
  rcases h2 with h2 | ⟨g, cap, cur, hv, hbase, hg, rest⟩
  · exact .inl h2
  · exact .inr ⟨g, cap, cur, hv, hbase, (hb.block g (Array.getElem?_eq_some_iff.1 hg).1).trans hg, rest⟩
theorem nb_app {v v' : Value} {s b : Nat} (h : v'.ownBlock = v.ownBlock ∨ v'.ownBlock = some s) (hv : v.ownBlock ≠ some b) (hs : b < s) : v'.ownBlock ≠ some b := by
  rcases h with h | h
  · rw [h]; exact hv
  · rw [h]; intro e; cases e; omega
theorem app_cell {w w' : World} {r : Option Nat} {p : Addr} {x : Value} (hg : w.grownBy w' r) (hne : r ≠ some p.block) (hc : w.cell? p = some x) : w'.cell? p = some x := by
  have hlt : p.block < w.heap.size := cell_lt hc
  have h1 : w'.heap[p.block]? = w.heap[p.block]? := hg.block p.block hlt (fun e => hne e.symm)
  unfold World.cell? at hc ⊢
  rw [h1]; exact hc
theorem own_nb {w : World} {base n sz b : Nat} {e : TypeId} {v : Value} {xs : List Value} (h : w.ownsRow base e sz v n xs) (hb : w.heap.size ≤ b) : v.ownBlock ≠ some b := fun e' => by
  have := (h.lt b e').2; omega
theorem esc_append : ∀ a b : List UInt8, esc (a ++ b) = esc a ++ esc b
  | [], b => rfl
  | c :: a, b => by
    simp only [List.cons_append, esc]
    split <;> simp [esc_append a b]
theorem esc_le : ∀ t : List UInt8, t.length ≤ (esc t).length
  | [] => by simp
  | c :: t => by
    have := esc_le t
    simp only [esc]; split <;> simp <;> omega
theorem esc_take_le (t : List UInt8) (k : Nat) : (esc (t.take k)).length ≤ (esc t).length := by
  conv => rhs; rw [← List.take_append_drop k t]
  rw [esc_append, List.length_append]; omega
theorem flat_take {l : List V} {k : Nat} {v : V} (h : l[k]? = some v) : (l.take (k + 1)).flatMap kone = (l.take k).flatMap kone ++ kone v := by
  rw [List.take_add_one, h]; simp
theorem flat_le (l : List V) (k : Nat) : ((l.take k).flatMap kone).length ≤ (l.flatMap kone).length := by
  conv => rhs; rw [← List.take_append_drop k l]
  rw [List.flatMap_append, List.length_append]; omega

set_option maxHeartbeats 4000000 in
set_option maxRecDepth 100000 in
theorem Append_any (B : Nat) (A A' : Option Addr) (c c' : Nat) (b : List UInt8) (l : List V) (w : World) (hb : Rd w B A (cells b)) (hl : Rd w B A' (vcells l)) (hB : B ≤ w.heap.size)
    (hlen : b.length + (l.flatMap kone).length ≤ 4294967296) (hll : l.length ≤ 4294967296) (hok : ∀ v ∈ l, v.k < 256 ∧ i64r v.n) :
    Calls Try.prog 35 #[.slice A b.length c, .slice A' l.length c'] w (RetBE w (kapp b l)) := by
  go_enter Try.func35, Try.ntmps35
  go_wp2_with (at_builtin; refine wpList_app El_u8 rfl _ _ rfl (World.ownsRow_nil w w.heap.size 5 1) rfl rfl hb (by simp) (cells_one b) (by unfold maxLen; omega) (by omega) (Nat.le_refl _) ?_; intro v1 w1 hown1 hg1 _)
  have hb1 := own_below (World.ownsRow_nil w w.heap.size 5 1) hg1 (Nat.le_refl _)
  rw [Nat.zero_add, List.nil_append] at hown1
  go_loopw [6, 16] (fun v6 v16 wr => ∃ (k : Nat) (bs : List UInt8), k ≤ l.length ∧ v16 = .int .i64 k ∧ (∀ v ∈ l.take k, mayB v = true) ∧ bs = b ++ (l.take k).flatMap kone ∧ wr.ownsRow w.heap.size 5 1 v6 bs.length (cells bs) ∧ Below w.heap.size w wr)
    (fun _ v16 _ => l.length - (intOf v16).toNat)
  case atStart => exact ⟨0, b, by omega, rfl, by simp, by simp, hown1, hb1⟩
  case round =>
    obtain ⟨k, bs, hk, rfl, hall, hbs, hown, hnx⟩ := hrel
    obtain ⟨A6, c6, rfl, hc6⟩ := own_form hown
    have HALL := Lib.hid hall
    have HBS := Lib.hid hbs
    have hbl : bs.length ≤ b.length + ((l.take k).flatMap kone).length := by rw [hbs, List.length_append]; omega
    clear hall hbs
    by_cases hlt : k < l.length
    · obtain ⟨v, hv⟩ : ∃ v, l[k]? = some v := ⟨_, List.getElem?_eq_getElem hlt⟩
      obtain ⟨gb, go, rfl, hgb, q0, q1, q2⟩ := rd_val hl hv
      have r0 := (hnx.cell (p := ⟨gb, go + k * 3, none⟩) (by show gb < _; omega)).trans q0
      have r1 := (hnx.cell (p := ⟨gb, go + k * 3 + 1, none⟩) (by show gb < _; omega)).trans q1
      have r2 := (hnx.cell (p := ⟨gb, go + k * 3 + 2, none⟩) (by show gb < _; omega)).trans q2
      have hvo := hok v (List.mem_of_getElem? hv)
      have hfl := flat_take hv
      have hft := flat_le l (k + 1)
      rw [hfl, List.length_append] at hft
      have HFL := Lib.hid hfl
      have hle : bs.length + (kone v).length ≤ 4294967296 := by omega
      have HV := Lib.hid hv
      have hall2 : mayB v = true → ∀ x ∈ l.take (k + 1), mayB x = true := fun hm x hx => by
        rw [List.take_add_one, HV.out] at hx
        rcases List.mem_append.1 hx with h | h
        · exact HALL.out x h
        · simp at h; subst h; exact hm
      have hno : mayB v = false → kapp b l = ([], 1) := fun hm => by
        unfold kapp
        rw [if_neg]
        intro h
        rw [List.all_eq_true] at h
        have := h v (List.mem_of_getElem? HV.out)
        rw [hm] at this; cases this
      have HNO := Lib.hid hno
      have HA2 := Lib.hid hall2
      have M0 := fun w => may_any v hvo.1 w
      obtain ⟨mb, hmb⟩ : ∃ x, x = mayB v := ⟨_, rfl⟩
      rw [← hmb] at M0
      have HMB := Lib.hid hmb
      have HM := Lib.hid M0
      have HVO := Lib.hid hvo
      clear hno hall2 M0 hvo hmb hv hfl q0 q1 q2 hft
      obtain ⟨kd, n, t⟩ := v
      dsimp only at r0 r1 r2
      go_wp2_with fail
      refine (HM.out _).mono ?_; rintro e w2 ⟨rfl, bl2⟩
      have hz2 := bl2.size; simp at hz2
      have b2 : Below w.heap.size w w2 := (hnx.alloc hnx.size _).trans (bl2.mono (by have := hnx.size; simp; omega))
      have d0 : w2.cell? ⟨wr.heap.size, 0, none⟩ = some (.int .u8 (kd : Int)) := cell_be (by simp [go_sem]) bl2 (by simp)
      have d1 : w2.cell? ⟨wr.heap.size, 1, none⟩ = some (.int .i64 n) := cell_be (by simp [go_sem]) bl2 (by simp)
      have d2 : w2.cell? ⟨wr.heap.size, 2, none⟩ = some (txt t) := cell_be (by simp [go_sem]) bl2 (by simp)
      have hown2 := own_bel (hown.alloc _) bl2
      have hy : wr.heap.size < w2.heap.size := by omega
      clear r0 r1 r2
      cases mb
      case false =>
        have he := HNO.out HMB.out.symm
        have HE := Lib.hid he
        clear he
        go_wp2_with fail
        go_ret2
        exact retBE_err HE.out b2
      have hall3 := HA2.out HMB.out.symm
      have HALL3 := Lib.hid hall3
      have hmay := HMB.out.symm
      rw [mayB_cases] at hmay
      dsimp only at hmay
      clear hall3 HNO HA2 HALL HMB HM
      have HFL2 := HFL.out
      rcases (show kd = 0 ∨ kd = 1 ∨ kd = 2 ∨ kd = 3 by
        rcases Nat.lt_or_ge kd 4 with h | h
        · omega
        · rw [if_neg (by omega), if_neg (by omega), if_neg (by omega), if_neg (by omega)] at hmay; cases hmay) with rfl | rfl | rfl | rfl
      · clear hmay HFL2
        have hk1 : kone ⟨0, n, t⟩ = [1] := rfl
        rw [hk1] at hle
        simp only [List.length_cons, List.length_nil] at hle
        clear hk1
        go_wp2_with (at_builtin; refine wpList_app El_u8 rfl _ _ rfl (hown2.alloc _) rfl rfl (by exact rd_one _ _ _ _ _ rfl (Nat.lt_add_one _)) rfl one_int (by unfold maxLen; omega) (by omega) (by have := b2.size; simp; omega) ?_; intro v2 w3 hown3 hg3 _; have hb3 : Below w.heap.size w w3 := (b2.alloc b2.size _).trans (own_below (hown2.alloc _) hg3 (by have := b2.size; simp; omega)))
        go_roundw
        case rel =>
          refine ⟨k + 1, bs ++ [1], by omega, by go_num, HALL3.out, by rw [HFL.out, HBS.out, List.append_assoc]; rfl, ?_, hb3⟩
          simpa [cells, b8] using hown3
        case measure => simp [intOf]; omega
      · have hn : n = 0 ∨ n = 1 := by
          simp at hmay
          exact hmay.1
        clear hmay HFL2
        have hk1 : kone ⟨1, n, t⟩ = [2, n.toNat.toUInt8] := rfl
        rw [hk1] at hle
        simp only [List.length_cons, List.length_nil] at hle
        clear hk1
        rcases hn with rfl | rfl
        · go_wp2_with (at_builtin; refine wpList_app El_u8 rfl _ _ rfl (hown2.alloc _) rfl rfl (by exact rd_two _ _ _ _ _ _ rfl (Nat.lt_add_one _)) rfl (by intro u hu; simp at hu; rcases hu with rfl | rfl <;> rfl) (by unfold maxLen; omega) (by omega) (by have := b2.size; simp; omega) ?_; intro v2 w3 hown3 hg3 _; have hb3 : Below w.heap.size w w3 := (b2.alloc b2.size _).trans (own_below (hown2.alloc _) hg3 (by have := b2.size; simp; omega)))
          go_roundw
          case rel =>
            refine ⟨k + 1, bs ++ [2, 0], by omega, by go_num, HALL3.out, by rw [HFL.out, HBS.out, List.append_assoc]; rfl, ?_, hb3⟩
            simpa [cells, b8] using hown3
          case measure => simp [intOf]; omega
        · go_wp2_with (at_builtin; refine wpList_app El_u8 rfl _ _ rfl (hown2.alloc _) rfl rfl (by exact rd_two _ _ _ _ _ _ rfl (Nat.lt_add_one _)) rfl (by intro u hu; simp at hu; rcases hu with rfl | rfl <;> rfl) (by unfold maxLen; omega) (by omega) (by have := b2.size; simp; omega) ?_; intro v2 w3 hown3 hg3 _; have hb3 : Below w.heap.size w w3 := (b2.alloc b2.size _).trans (own_below (hown2.alloc _) hg3 (by have := b2.size; simp; omega)))
          go_roundw
          case rel =>
            refine ⟨k + 1, bs ++ [2, 1], by omega, by go_num, HALL3.out, by rw [HFL.out, HBS.out, List.append_assoc]; rfl, ?_, hb3⟩
            simpa [cells, b8] using hown3
          case measure => simp [intOf]; omega
      · clear hmay HFL2
        have hk1 : kone ⟨2, n, t⟩ = 3 :: be 8 (n + 9223372036854775808).toNat := rfl
        have hnb := HVO.out.2
        have hl8 : (be 8 (n + 9223372036854775808).toNat).length = 8 := rfl
        rw [hk1, List.length_cons, hl8] at hle
        obtain ⟨u, hu⟩ : ∃ u, u = (n + 9223372036854775808).toNat := ⟨_, rfl⟩
        rw [← hu] at hk1
        have hub : u < 18446744073709551616 := by unfold i64r at hnb; omega
        have HXOR : Hid (bits .xor .u64 (IntKind.u64.wrap n) 9223372036854775808 = (u : Int)) := Lib.hid (by rw [hu]; exact xor_i64 n hnb)
        have HK1 := Lib.hid hk1
        have hnb6 : (Value.slice A6 bs.length c6).ownBlock ≠ some wr.heap.size := own_nb hown (Nat.le_refl _)
        clear hk1 hu hl8 hnb
        go_wp2_with (at_builtin; refine wpList_app El_u8 rfl _ _ rfl (hown2.alloc _) rfl rfl (by exact rd_one _ _ _ _ _ rfl (Nat.lt_add_one _)) rfl one_int (by unfold maxLen; omega) (by omega) (by have := b2.size; simp; omega) ?_; intro v2 w3 hown3 hg3 ho3)
        have hb3 : Below w.heap.size w w3 := (b2.alloc b2.size _).trans (own_below (hown2.alloc _) hg3 (by have := b2.size; simp; omega))
        have d1' : w3.cell? ⟨wr.heap.size, 1, none⟩ = some (.int .i64 n) := app_cell hg3 hnb6 (cell_al d1 hy _)
        have hnb7 : v2.ownBlock ≠ some wr.heap.size := nb_app ho3 hnb6 (by simp; omega)
        have hz3 := hg3.size
        simp only [World.size_alloc] at hz3
        go_loopw [6, 9] (fun v6 v9 ws => ∃ (j : Nat) (z : Int) (d : List UInt8), j ≤ 8 ∧ v9 = .int .i64 z ∧ z + 8 = 8 * (j : Int) ∧ be 8 u = d ++ be j u ∧ d.length + j = 8 ∧ ws.ownsRow w.heap.size 5 1 v6 (bs.length + 1 + d.length) (cells (bs ++ 3 :: d)) ∧ v6.ownBlock ≠ some wr.heap.size ∧
            ws.cell? ⟨wr.heap.size, 1, none⟩ = some (.int .i64 n) ∧ wr.heap.size < ws.heap.size ∧ Below w.heap.size w ws) (fun _ v9 _ => (intOf v9 + 8).toNat)
        case atStart => exact ⟨8, 56, [], by omega, rfl, by omega, rfl, rfl, by simpa [cells, b8] using hown3, hnb7, d1', by omega, hb3⟩
        case round =>
          obtain ⟨j, z, d, hj, rfl, hzj, hbe, hdl, hownj, hnbj, hcj, hwj, hbj⟩ := hrel
          obtain ⟨A7, c7, rfl, hc7⟩ := own_form hownj
          have HBE := Lib.hid hbe
          clear hbe
          rcases Nat.eq_zero_or_pos j with h0 | h0
          · subst h0
            have hz8 : z = -8 := by omega
            subst hz8
            have hd8 : kone ⟨2, n, t⟩ = 3 :: d := by rw [HK1.out, HBE.out]; simp [be]
            have HD8 := Lib.hid hd8
            clear hd8
            go_wp2_with fail
            go_roundw
            case rel =>
              refine ⟨k + 1, bs ++ 3 :: d, by omega, by go_num, HALL3.out, by rw [HFL.out, HBS.out, List.append_assoc, HD8.out], ?_, hbj⟩
              have e : (bs ++ 3 :: d).length = bs.length + 1 + d.length := by simp; omega
              rw [e]; exact hownj
            case measure => simp [intOf]; omega
          · obtain ⟨i, rfl⟩ : ∃ i, j = i + 1 := ⟨j - 1, by omega⟩
            have hzi : z = 8 * (i : Int) := by omega
            subst hzi
            have hxo := HXOR.out
            have hby : (u : Int) / 2 ^ (8 * i) % 256 = ((u / 256 ^ i % 256 : Nat) : Int) := by
              have e : (2 : Int) ^ (8 * i) = ((256 ^ i : Nat) : Int) := by
                rw [show (256 : Nat) = 2 ^ 8 from rfl, ← Nat.pow_mul]; simp
              rw [e]; simp
            have HBY := Lib.hid hby
            clear hby
            go_wp2_with (at_builtin; refine wpList_app El_u8 rfl _ _ rfl (hownj.alloc _) rfl rfl (by exact rd_one _ _ _ _ _ rfl (Nat.lt_add_one _)) rfl one_int (by unfold maxLen; omega) (by omega) (by have := hbj.size; simp; omega) ?_; intro v4 w5 hown5 hg5 ho5)
            have hb5 : Below w.heap.size w w5 := (hbj.alloc hbj.size _).trans (own_below (hownj.alloc _) hg5 (by have := hbj.size; simp; omega))
            have hz5 := hg5.size
            simp only [World.size_alloc] at hz5
            go_roundw
            case rel =>
              refine ⟨i, 8 * (i : Int) - 8, d ++ [(u / 256 ^ i % 256).toUInt8], by omega, rfl, by omega, by rw [HBE.out]; simp [be], by simp; omega, ?_, nb_app ho5 hnbj (by simp; omega), app_cell hg5 hnbj (cell_al hcj hwj _), by omega, hb5⟩
              have e : bs ++ 3 :: (d ++ [(u / 256 ^ i % 256).toUInt8]) = (bs ++ 3 :: d) ++ [(u / 256 ^ i % 256).toUInt8] := by simp
              rw [e, cells_snoc _ (Nat.mod_lt _ (by omega)), ← HBY.out, List.length_append, List.length_singleton, ← Nat.add_assoc]
              exact hown5
            case measure => simp [intOf]; omega
      · clear hmay HFL2
        have hk1 : kone ⟨3, n, t⟩ = 4 :: (esc t ++ [0, 1]) := rfl
        rw [hk1] at hle
        simp only [List.length_cons, List.length_append, List.length_nil] at hle
        have HK1 := Lib.hid hk1
        have hnb6 : (Value.slice A6 bs.length c6).ownBlock ≠ some wr.heap.size := own_nb hown (Nat.le_refl _)
        clear hk1
        have htl := esc_le t
        go_wp2_with (at_builtin; refine wpList_app El_u8 rfl _ _ rfl (hown2.alloc _) rfl rfl (by exact rd_one _ _ _ _ _ rfl (Nat.lt_add_one _)) rfl one_int (by unfold maxLen; omega) (by omega) (by have := b2.size; simp; omega) ?_; intro v2 w3 hown3 hg3 ho3; have d2' : w3.cell? ⟨wr.heap.size, 2, none⟩ = some (txt t) := app_cell hg3 hnb6 (cell_al d2 hy _); obtain ⟨c30, o30, hcv, hrd30, _⟩ := conv_str w3 t)
        have hb3 : Below w.heap.size w w3 := (b2.alloc b2.size _).trans (own_below (hown2.alloc _) hg3 (by have := b2.size; simp; omega))
        have hsz3 := hb3.size
        clear hcv d2'
        have hrd31 : ∀ i x, t[i]? = some x → (w3.alloc o30).drew.cell? ⟨w3.heap.size, i, none⟩ = some (b8 x) := fun i x hx => by
          obtain ⟨bb, oo, hA, _, hcc⟩ := hrd30.at (k := i) (by simpa using (List.getElem?_eq_some_iff.1 hx).1)
          cases hA
          have := hcc i (b8 x) (by rw [List.getElem?_map, hx]; rfl)
          rw [Nat.zero_add] at this
          exact this
        have hnb3 : v2.ownBlock ≠ some w3.heap.size := own_nb hown3 (Nat.le_refl _)
        go_loopw [6, 32] (fun v6 v32 ws => ∃ (j : Nat) (d : List UInt8), j ≤ t.length ∧ v32 = .int .i64 j ∧ d = esc (t.take j) ∧ d.length ≤ (esc t).length ∧ ws.ownsRow w.heap.size 5 1 v6 (bs.length + 1 + d.length) (cells (bs ++ 4 :: d)) ∧ v6.ownBlock ≠ some w3.heap.size ∧
            (∀ i x, t[i]? = some x → ws.cell? ⟨w3.heap.size, i, none⟩ = some (b8 x)) ∧ w3.heap.size < ws.heap.size ∧ Below w.heap.size w ws) (fun _ v32 _ => t.length - (intOf v32).toNat)
        case atStart => exact ⟨0, [], by omega, rfl, rfl, by simp, by simpa [cells, b8] using ((hown3.alloc o30).drew), hnb3, hrd31, by simp, (hb3.alloc hsz3 _).drew⟩
        case round =>
          obtain ⟨j, d, hj, rfl, hd, hdl, hownj, hnbj, hcj, hwj, hbj⟩ := hrel
          obtain ⟨A7, c7, rfl, hc7⟩ := own_form hownj
          have HD := Lib.hid hd
          have HCJ := Lib.hid hcj
          clear hd hcj
          by_cases hjt : j < t.length
          · obtain ⟨x, hx⟩ : ∃ x, t[j]? = some x := ⟨_, List.getElem?_eq_getElem hjt⟩
            have hcx := HCJ.out j x hx
            have hst : esc (t.take (j + 1)) = d ++ (if x = 0 then [0, 255] else [x]) := by
              rw [List.take_add_one, hx, esc_append, HD.out]
              simp only [Option.toList_some, esc]
            have hle2 := esc_take_le t (j + 1)
            rw [hst, List.length_append] at hle2
            have HST := Lib.hid hst
            have hjI : (j : Int) < (t.length : Int) := by omega
            clear hst hx
            by_cases hx0 : x = 0
            · subst hx0
              rw [if_pos rfl] at hle2
              simp only [List.length_cons, List.length_nil] at hle2
              have hcx0 : Hid True := trivial
              rw [show b8 0 = .int .u8 0 from rfl] at hcx
              go_wp2_with (first
                | (at_builtin; refine wpList_app El_u8 rfl _ _ rfl (hown5.alloc _) rfl rfl (by exact rd_one _ _ _ _ _ rfl (Nat.lt_add_one _)) rfl one_int (by unfold maxLen; omega) (by omega) (by have := hb5.size; simp; omega) ?_; intro v8 w8 hown8 hg8 ho8)
                | (at_builtin; refine wpList_app El_u8 rfl _ _ rfl (hownj.alloc _) rfl rfl (by exact rd_one _ _ _ _ _ rfl (Nat.lt_add_one _)) rfl one_int (by unfold maxLen; omega) (by omega) (by have := hbj.size; simp; omega) ?_; intro v4 w5 hown5 hg5 ho5; have hb5 : Below w.heap.size w w5 := (hbj.alloc hbj.size _).trans (own_below (hownj.alloc _) hg5 (by have := hbj.size; simp; omega)); have hz5 := hg5.size; simp only [World.size_alloc] at hz5; have hnb5 := nb_app ho5 hnbj (by simp; omega); obtain ⟨A8, c8, rfl, hc8⟩ := own_form hown5))
              have hb8 : Below w.heap.size w w8 := (hb5.alloc hb5.size _).trans (own_below (hown5.alloc _) hg8 (by have := hb5.size; simp; omega))
              have hz8 := hg8.size
              simp only [World.size_alloc] at hz8
              have hw5 : w3.heap.size < w5.heap.size := by omega
              go_roundw
              case rel =>
                refine ⟨j + 1, d ++ [0, 255], by omega, by go_num, by rw [HST.out, if_pos rfl], by simp; omega, ?_, nb_app ho8 hnb5 (by simp; omega), fun i y hy => app_cell hg8 hnb5 (cell_al (app_cell hg5 hnbj (cell_al (HCJ.out i y hy) hwj _)) hw5 _), by omega, hb8⟩
                have e : bs ++ 4 :: (d ++ [0, 255]) = (bs ++ 4 :: d) ++ [0, 255] := by simp
                have e2 : bs.length + 1 + (d ++ [0, 255]).length = bs.length + 1 + d.length + 1 + 1 := by simp; omega
                rw [e, e2, cells_append]
                simpa [cells, b8] using hown8
              case measure => simp [intOf]; omega
            · rw [if_neg hx0] at hle2
              simp only [List.length_cons, List.length_nil] at hle2
              have hxn : ((x.toNat : Int) == 0) = false := by
                simp only [beq_eq_false_iff_ne, ne_eq]
                intro e
                exact hx0 (UInt8.toNat_inj.1 (by show x.toNat = 0; omega))
              go_wp2_with (at_builtin; refine wpList_app El_u8 rfl _ _ rfl (hownj.alloc _) rfl rfl (by exact rd_one _ _ _ _ _ rfl (Nat.lt_add_one _)) rfl one_int (by unfold maxLen; omega) (by omega) (by have := hbj.size; simp; omega) ?_; intro v4 w5 hown5 hg5 ho5)
              have hb5 : Below w.heap.size w w5 := (hbj.alloc hbj.size _).trans (own_below (hownj.alloc _) hg5 (by have := hbj.size; simp; omega))
              have hz5 := hg5.size
              simp only [World.size_alloc] at hz5
              go_roundw
              case rel =>
                refine ⟨j + 1, d ++ [x], by omega, by go_num, by rw [HST.out, if_neg hx0], by simp; omega, ?_, nb_app ho5 hnbj (by simp; omega), fun i y hy => app_cell hg5 hnbj (cell_al (HCJ.out i y hy) hwj _), by omega, hb5⟩
                have e : bs ++ 4 :: (d ++ [x]) = (bs ++ 4 :: d) ++ [x] := by simp
                rw [e, cells_append, List.length_append, List.length_singleton, ← Nat.add_assoc]
                exact hown5
              case measure => simp [intOf]; omega
          · have hjt' : j = t.length := by omega
            have hde : d = esc t := by rw [HD.out, hjt', List.take_length]
            have HDE := Lib.hid hde
            subst hjt'
            clear hde HD
            go_wp2_with (at_builtin; refine wpList_app El_u8 rfl _ _ rfl (hownj.alloc _) rfl rfl (by exact rd_two _ _ _ _ _ _ rfl (Nat.lt_add_one _)) rfl (by intro u hu; simp at hu; rcases hu with rfl | rfl <;> rfl) (by unfold maxLen; omega) (by omega) (by have := hbj.size; simp; omega) ?_; intro v4 w5 hown5 hg5 ho5)
            have hb5 : Below w.heap.size w w5 := (hbj.alloc hbj.size _).trans (own_below (hownj.alloc _) hg5 (by have := hbj.size; simp; omega))
            go_roundw
            case rel =>
              refine ⟨k + 1, bs ++ 4 :: (d ++ [0, 1]), by omega, by go_num, HALL3.out, by rw [HFL.out, HBS.out, List.append_assoc, HK1.out, HDE.out], ?_, hb5⟩
              have e : bs ++ 4 :: (d ++ [0, 1]) = (bs ++ 4 :: d) ++ [0, 1] := by simp
              have e2 : ((bs ++ 4 :: d) ++ [0, 1]).length = bs.length + 1 + d.length + 2 := by simp; omega
              rw [e, e2, cells_append]
              exact hown5
            case measure => simp [intOf]; omega
    · have hkk : k = l.length := by omega
      have he : kapp b l = (bs, 0) := by
        unfold kapp
        have h1 := HALL.out
        rw [hkk, List.take_length] at h1
        rw [if_pos (List.all_eq_true.2 h1), HBS.out, hkk, List.take_length]
      have HE := Lib.hid he
      subst hkk
      clear he
      go_wp2_with fail
      go_ret2
      exact retBE_ok HE.out hown hnx
end Go.Proofs.Ytfnbckgpldkgmaa

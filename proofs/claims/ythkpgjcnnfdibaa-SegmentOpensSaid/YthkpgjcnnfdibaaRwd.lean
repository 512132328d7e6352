/- Joined texts: see the remark ahead of each part. No condition but those that the parts name. -/
import Derived.Test.YthkpgjcnnfdibaaRwc
import Derived.Test.YthkpgjcnnfdibaaBas
/-! The walks of the reference's Value and Get (layer 4): what they answer is vread and rget. No condition but sizes. -/
namespace Go.Proofs.Ythkpgjcnnfdibaa.Rw
open Go.RowKit Go.Maps
set_option linter.unusedVariables false
set_option linter.unusedSimpArgs false

section
variable (B : Nat) (A : Option Addr) (c : Nat) (b : List UInt8) (w : World) (hr : Rd w B A (cells b)) (hc : b.length ≤ c) (hB : B ≤ w.heap.size) (hlen : b.length ≤ 4294967296)
include hr hc hB hlen

set_option maxHeartbeats 1000000 in
set_option maxRecDepth 100000 in
theorem rget1_any : Calls Try.prog 69 #[.int .u8 1, .slice A b.length c] w (RetR w (vread 1 b)) := by
  rcases b with _ | ⟨d, r⟩
  · have he : vread 1 [] = (null, 0, 20) := rfl
    have HE := Lib.hid he
    clear he
    go_enter Try.func69, Try.ntmps69
    go_wp2
    refine bodyPost_ret (v := .tuple #[nullA, .int .i64 0, .int .i64 20]) (by simp [results, Try.results69, go_sem]) rfl (retR_of rfl HE.out (by go_grown))
  · obtain ⟨bb, oo, hA, hbb, hcell⟩ := rd_head hr
    have hcal : ∀ o, (w.alloc o).cell? ⟨bb, oo, none⟩ = some (.int .u8 (d.toNat : Int)) := fun o => cell_al hcell (by show bb < _; omega) _
    obtain ⟨n, hnn⟩ : ∃ n, n = (d :: r).length := ⟨_, rfl⟩
    have hn : 1 ≤ n := by rw [hnn]; simp
    rw [← hnn]
    have hn0 : ((n : Int) == 0) = false := by simp; omega
    have hn1 : (0 : Int) < (n : Int) := by omega
    have hn2 : 0 < n := by omega
    subst hA
    have hd : d.toNat < 256 := d.toNat_lt
    have hR := Lib.hid hr
    clear hnn hr hlen hc hn
    by_cases h1 : 1 < d.toNat
    · have he : vread 1 (d :: r) = (null, 0, 21) := by simp [vread, h1]
      have HE := Lib.hid he
      have h1I : (1 : Int) < (d.toNat : Int) := by omega
      clear he
      go_enter Try.func69, Try.ntmps69
      go_wp2
      refine bodyPost_ret (v := .tuple #[nullA, .int .i64 0, .int .i64 21]) (by simp [results, Try.results69, go_sem]) rfl (retR_of rfl HE.out (by go_grown))
    · have he : vread 1 (d :: r) = (⟨1, d.toNat, []⟩, 1, 0) := by simp [vread, h1]
      have HE := Lib.hid he
      have h1I : (d.toNat : Int) ≤ 1 := by omega
      have hw : IntKind.i64.wrap (d.toNat : Int) = (d.toNat : Int) := by rw [IntKind.wrap_i64]; omega
      clear he
      go_enter Try.func69, Try.ntmps69
      go_wp2
      refine bodyPost_ret (v := .tuple #[va ⟨1, d.toNat, []⟩, .int .i64 1, .int .i64 0]) (by simp [results, Try.results69, go_sem]) rfl (retR_of rfl HE.out (by go_grown))

set_option maxHeartbeats 1000000 in
set_option maxRecDepth 100000 in
theorem rget2_any : Calls Try.prog 69 #[.int .u8 2, .slice A b.length c] w (RetR w (vread 2 b)) := by
  have _ := hc
  have G0 := fun (w1 : World) (h : Below w.heap.size w w1) => rGet_any B A c b w1 (hr.below (h.mono hB)) hlen
  have hv := vget_val b
  have hvr : vread 2 b = if (vget b).2.2 ≠ 0 then (null, 0, (vget b).2.2) else (⟨2, zag (vget b).1, []⟩, (vget b).2.1, 0) := by
    unfold vread; rw [if_neg (by decide)]
    split
    · rfl
    · rw [if_pos (by decide)]
  obtain ⟨x, hx⟩ : ∃ x, x = vget b := ⟨_, rfl⟩
  rw [← hx] at G0 hv hvr
  obtain ⟨u, n, e⟩ := x
  dsimp only at hv hvr
  have HG := Lib.hid G0
  have HV := Lib.hid hvr
  have Z0 := fun w => rZag_any (u : Int) (by omega) (by omega) w
  have HZ := Lib.hid Z0
  clear G0 hx Z0 hvr
  by_cases he : e = 0
  · subst he
    have HE : Hid (vread 2 b = (⟨2, zag u, []⟩, n, 0)) := Lib.hid (by rw [HV.out]; simp)
    clear HV
    go_enter Try.func69, Try.ntmps69
    go_wp2_with fail
    refine (HG.out _ ((Below.refl _ _).alloc (Nat.le_refl _) _)).mono ?_; rintro e w1 ⟨rfl, rfl⟩
    go_wp2_with fail
    refine (HZ.out _).mono ?_; rintro e w1 ⟨rfl, rfl⟩
    go_wp2_with fail
    refine bodyPost_ret (v := .tuple #[va ⟨2, zag u, []⟩, .int .i64 n, .int .i64 0]) (by simp [results, Try.results69, go_sem]) rfl (retR_of rfl HE.out (by go_grown))
  · have HE : Hid (vread 2 b = (null, 0, e)) := Lib.hid (by rw [HV.out, if_pos he])
    have heI : ((e : Int) != 0) = true := by simp; omega
    clear HV
    go_enter Try.func69, Try.ntmps69
    go_wp2_with fail
    refine (HG.out _ ((Below.refl _ _).alloc (Nat.le_refl _) _)).mono ?_; rintro e w1 ⟨rfl, rfl⟩
    go_wp2_with fail
    refine bodyPost_ret (v := .tuple #[nullA, .int .i64 0, .int .i64 e]) (by simp [results, Try.results69, go_sem]) rfl (retR_of rfl HE.out (by go_grown))

set_option maxHeartbeats 1000000 in
set_option maxRecDepth 100000 in
theorem rget3_any : Calls Try.prog 69 #[.int .u8 3, .slice A b.length c] w (RetR w (vread 3 b)) := by
  have G0 := fun (w1 : World) (h : Below w.heap.size w w1) => rGet_any B A c b w1 (hr.below (h.mono hB)) hlen
  have hv := vget_val b
  have hvr : vread 3 b = if (vget b).2.2 ≠ 0 then (null, 0, (vget b).2.2) else if b.length - (vget b).2.1 < (vget b).1 then (null, 0, 20) else (⟨3, 0, (b.drop (vget b).2.1).take (vget b).1⟩, (vget b).2.1 + (vget b).1, 0) := by
    unfold vread; rw [if_neg (by decide)]
    split
    · rfl
    · rw [if_neg (by decide)]
  obtain ⟨x, hx⟩ : ∃ x, x = vget b := ⟨_, rfl⟩
  rw [← hx] at G0 hv hvr
  obtain ⟨u, n, e⟩ := x
  dsimp only at hv hvr
  obtain ⟨hu, _, hn⟩ := hv
  have HG := Lib.hid G0
  have HV := Lib.hid hvr
  clear G0 hx hvr
  by_cases he : e = 0
  · subst he
    have hw1 : IntKind.u64.wrap ((b.length : Int) - (n : Int)) = ((b.length - n : Nat) : Int) := by rw [IntKind.wrap_u64]; omega
    by_cases hun : b.length - n < u
    · have HE : Hid (vread 3 b = (null, 0, 20)) := Lib.hid (by rw [HV.out]; simp [hun])
      have hunI : (b.length : Int) - (n : Int) < (u : Int) := by omega
      clear HV
      go_enter Try.func69, Try.ntmps69
      go_wp2_with fail
      refine (HG.out _ ((Below.refl _ _).alloc (Nat.le_refl _) _)).mono ?_; rintro e w1 ⟨rfl, rfl⟩
      go_wp2_with fail
      refine bodyPost_ret (v := .tuple #[nullA, .int .i64 0, .int .i64 20]) (by simp [results, Try.results69, go_sem]) rfl (retR_of rfl HE.out (by go_grown))
    · have HE : Hid (vread 3 b = (⟨3, 0, (b.drop n).take u⟩, n + u, 0)) := Lib.hid (by rw [HV.out]; simp [hun])
      have hunI : (u : Int) ≤ (b.length : Int) - (n : Int) := by omega
      have hwu : IntKind.i64.wrap (u : Int) = (u : Int) := by rw [IntKind.wrap_i64]; omega
      obtain ⟨A', c', hsl, hrd', hc'⟩ := mid_any c n (n + u) (by omega) (by omega) hc hr
      rw [show n + u - n = u by omega] at hsl hrd'
      have hsl2 := fun w' => hsl w' n ((n : Int) + (u : Int)) rfl (by omega)
      have CV : ∀ w', Below w.heap.size w w' → (convert 22 9 (.slice A' ((b.drop n).take u).length c')).run Try.prog w' = .ok (txt ((b.drop n).take u)) w' := fun w' h => conv_rd (hrd'.below (h.mono hB)) c'
      have cv1 := fun o => CV (w.alloc o) ((Below.refl _ _).alloc (Nat.le_refl _) _)
      clear HV hsl CV
      obtain ⟨s, hs⟩ : ∃ s, s = (b.drop n).take u := ⟨_, rfl⟩
      rw [← hs] at hsl2 HE cv1
      clear hs
      have hnu : ¬ 9223372036854775807 < n + u := by omega
      go_enter Try.func69, Try.ntmps69
      go_wp2_with fail
      refine (HG.out _ ((Below.refl _ _).alloc (Nat.le_refl _) _)).mono ?_; rintro e w1 ⟨rfl, rfl⟩
      go_wp2_with fail
      refine bodyPost_ret (v := .tuple #[va ⟨3, 0, s⟩, .int .i64 ((n + u : Nat) : Int), .int .i64 0]) (by simp [results, Try.results69, go_sem]) rfl (retR_of rfl HE.out (by go_grown))
  · have HE : Hid (vread 3 b = (null, 0, e)) := Lib.hid (by rw [HV.out, if_pos he])
    have heI : ((e : Int) != 0) = true := by simp; omega
    clear HV
    go_enter Try.func69, Try.ntmps69
    go_wp2_with fail
    refine (HG.out _ ((Below.refl _ _).alloc (Nat.le_refl _) _)).mono ?_; rintro e w1 ⟨rfl, rfl⟩
    go_wp2_with fail
    refine bodyPost_ret (v := .tuple #[nullA, .int .i64 0, .int .i64 e]) (by simp [results, Try.results69, go_sem]) rfl (retR_of rfl HE.out (by go_grown))
end
end Go.Proofs.Ythkpgjcnnfdibaa.Rw

/-! The walk of the reference's Get (layer 4): what it answers is rget. No condition but sizes. -/
namespace Go.Proofs.Ythkpgjcnnfdibaa.Rw
open Go.RowKit Go.Maps
set_option linter.unusedVariables false
set_option linter.unusedSimpArgs false

theorem rValue_any (t : UInt8) (ht : t.toNat = 1 ∨ t.toNat = 2 ∨ t.toNat = 3) (B : Nat) (A : Option Addr) (c : Nat) (b : List UInt8) (w : World) (hr : Rd w B A (cells b)) (hc : b.length ≤ c) (hB : B ≤ w.heap.size) (hlen : b.length ≤ 4294967296) :
    Calls Try.prog 69 #[.int .u8 (t.toNat : Int), .slice A b.length c] w (RetR w (vread t b)) := by
  rcases ht with h | h | h
  · obtain rfl : t = 1 := UInt8.toNat_inj.1 h
    exact rget1_any B A c b w hr hc hB hlen
  · obtain rfl : t = 2 := UInt8.toNat_inj.1 h
    exact rget2_any B A c b w hr hc hB hlen
  · obtain rfl : t = 3 := UInt8.toNat_inj.1 h
    exact rget3_any B A c b w hr hc hB hlen
/-- what the walk wants of bit i of bytes in memory -/
theorem bit_facts {w : World} {B : Nat} {bb oo : Nat} {b : List UInt8} (hr : Rd w B (some ⟨bb, oo, none⟩) (cells b)) (i : Nat) (hi : i / 8 < b.length) :
    ∃ X : Nat, X < 256 ∧ w.cell? ⟨bb, oo + i / 8, none⟩ = some (.int .u8 (X : Int)) ∧ (((X : Int) / 2 ^ (i % 8)).tmod 2 == 1) = bitAt b i := by
  obtain ⟨b2, o2, h1, _, hc⟩ := rd_cell hr hi
  cases h1
  refine ⟨(b[i / 8]).toNat, (b[i / 8]).toNat_lt, hc _ hi, ?_⟩
  rw [bitAt_of (List.getElem?_eq_getElem hi)]
  obtain ⟨q, hq⟩ : ∃ q, q = (b[i / 8]).toNat / 2 ^ (i % 8) := ⟨_, rfl⟩
  rw [show (((b[i / 8]).toNat : Int) / 2 ^ (i % 8)) = (((b[i / 8]).toNat / 2 ^ (i % 8) : Nat) : Int) by simp, ← hq, Int.tmod_eq_emod_of_nonneg (by omega)]
  by_cases h : q % 2 = 1
  · have h2 : (q : Int) % 2 = 1 := by omega
    simp [h, h2]
  · have h2 : (q : Int) % 2 = 0 := by omega
    simp [h, h2]

set_option maxHeartbeats 4000000 in
set_option maxRecDepth 100000 in
theorem RGet_row (B : Nat) (A A' : Option Addr) (c c' : Nat) (T b : List UInt8) (w : World) (hT : Rd w B A (cells T)) (hb : Rd w B A' (cells b)) (hB : B ≤ w.heap.size) (hcb : b.length ≤ c')
    (hTl : T.length ≤ 4294967296) (hbl : b.length ≤ 4294967296) :
    Calls Try.prog 40 #[.slice A T.length c, .slice A' b.length c'] w (RetVE w (rget T b)) := by
  have K0 := fun w h => Types_any B A c T w h (by unfold maxLen; omega)
  obtain ⟨kn, hkn⟩ : ∃ x, x = knownT T := ⟨_, rfl⟩
  rw [← hkn] at K0
  have HK := Lib.hid K0
  have HKN := Lib.hid hkn
  clear K0 hkn
  cases kn
  case false =>
    have he : rget T b = ([], 1) := by unfold rget; rw [← HKN.out]; rfl
    have HE := Lib.hid he
    clear he
    go_enter Try.func40, Try.ntmps40
    go_wp2_with fail
    refine (HK.out _ hT).mono ?_; rintro e w1 ⟨rfl, rfl⟩
    go_wp2_with fail
    go_ret2
    exact retVE_err HE.out (Below.refl _ _)
  obtain ⟨n, hn⟩ : ∃ n, n = T.length := ⟨_, rfl⟩
  have h8l := size8_le T.length
  obtain ⟨m, hm⟩ : ∃ m, m = size8 T.length := ⟨_, rfl⟩
  have hmI : ((n : Int) + 7) / 8 = (m : Int) := by rw [hm, hn]; unfold size8; omega
  have hm8 : n ≤ 8 * m := by omega
  have hmn : m ≤ n + 7 := by rw [hm, hn]; unfold size8; omega
  obtain ⟨L, hL⟩ : ∃ L, L = b.length := ⟨_, rfl⟩
  have hrg : rget T b = if L < m then ([], 20) else if anyBit b n (8 * m) then ([], 21) else rvals b 0 T [] (b.drop m) := by
    unfold rget; rw [← HKN.out, if_neg (by simp), hL, hm, hn]
  have HRG := Lib.hid hrg
  rw [← hn] at HK hTl
  rw [← hn, ← hL]
  rw [← hL] at hbl hcb
  have HN := Lib.hid hn
  have HM := Lib.hid hm
  have HL := Lib.hid hL
  clear hn hm hL hrg h8l
  by_cases hLm : L < m
  case pos =>
    have he : rget T b = ([], 20) := by rw [HRG.out, if_pos hLm]
    have HE := Lib.hid he
    have hLI : (L : Int) < (m : Int) := by omega
    clear he
    go_enter Try.func40, Try.ntmps40
    go_wp2_with fail
    refine (HK.out _ hT).mono ?_; rintro e w1 ⟨rfl, rfl⟩
    go_wp2_with fail
    go_ret2
    exact retVE_err HE.out (Below.refl _ _)
  have hLI : (m : Int) ≤ (L : Int) := by omega
  have hmL : m ≤ L := by omega
  have HMAP : ∀ i, i < 8 * m → i / 8 < b.length := fun i hi => by rw [← HL.out]; omega
  go_enter Try.func40, Try.ntmps40
  go_wp2_with fail
  refine (HK.out _ hT).mono ?_; rintro e w0 ⟨rfl, rfl⟩
  go_wp2_with fail
  rw [hmI]
  go_loopw [7] (fun v7 wr => ∃ i : Nat, n ≤ i ∧ i ≤ 8 * m ∧ v7 = .int .i64 i ∧ (∀ q, n ≤ q → q < i → bitAt b q = false) ∧ w = wr) (fun v7 _ => 8 * m - (intOf v7).toNat)
  case atStart => exact ⟨n, Nat.le_refl _, hm8, rfl, fun q h1 h2 => by omega, rfl⟩
  case round =>
    obtain ⟨i, hi1, hi2, rfl, hno, rfl⟩ := hrel
    have HNO := Lib.hid hno
    clear hno
    by_cases hlt : i < 8 * m
    · have hltI : (i : Int) < 8 * (m : Int) := by omega
      have hib := HMAP i hlt
      obtain ⟨bb, oo, rfl, hbb, _⟩ := rd_cell hb hib
      obtain ⟨X, hX, hcell, hbit⟩ := bit_facts hb i hib
      obtain ⟨bi, hbi⟩ : ∃ x, x = bitAt b i := ⟨_, rfl⟩
      rw [← hbi] at hbit
      obtain ⟨j, hj⟩ : ∃ j, j = i / 8 := ⟨_, rfl⟩
      rw [← hj] at hcell hib
      have hjI : (i : Int) / 8 = (j : Int) := by omega
      have hjL : j < L := by rw [HL.out]; exact hib
      have hjLI : (j : Int) < (L : Int) := by omega
      have HBI := Lib.hid hbi
      clear hbi hj hib
      cases bi
      · go_wp2_with fail
        go_roundw
        case rel =>
          refine ⟨i + 1, by omega, by omega, by go_num, fun q h1 h2 => ?_, trivial⟩
          by_cases hq : q = i
          · rw [hq]; exact HBI.out.symm
          · exact HNO.out q h1 (by omega)
        case measure => simp [intOf]; omega
      · have he : rget T b = ([], 21) := by
          rw [HRG.out, if_neg hLm, if_pos ((anyBit_iff _ _ _).2 ⟨i, hi1, hlt, HBI.out.symm⟩)]
        have HE := Lib.hid he
        clear he
        go_wp2_with fail
        go_ret2
        exact retVE_err HE.out (Below.refl _ _)
    have hi8 : i = 8 * m := by omega
    have hr2 : rget T b = rvals b 0 T [] (b.drop m) := by
      rw [HRG.out, if_neg hLm, if_neg]
      rw [anyBit_iff]
      rintro ⟨q, h1, h2, h3⟩
      rw [HNO.out q h1 (by omega)] at h3; cases h3
    have HR2 := Lib.hid hr2
    have hgeI : 8 * (m : Int) ≤ (i : Int) := by omega
    obtain ⟨by_, HEL, hby⟩ := El_val
    have hkn : ∀ (k : Nat) (t : UInt8), T[k]? = some t → t.toNat = 1 ∨ t.toNat = 2 ∨ t.toNat = 3 := fun k t h => by
      have h1 := HKN.out.symm
      unfold knownT at h1
      rw [List.all_eq_true] at h1
      have h2 := h1 t (List.mem_of_getElem? h)
      rcases tyok_cases t with ⟨_, h3⟩ | ⟨h3, _⟩
      · exact h3
      · rw [h3] at h2; cases h2
    have HKT := Lib.hid hkn
    have hmap2 : ∀ k, k < n → k / 8 < b.length := fun k hk => HMAP k (by omega)
    clear hi8 hlt hr2 HRG HNO hkn HMAP
    go_wp2_with fail
    go_loopw [8, 9, 10] (fun v8 v9 v10 wr => ∃ (k : Nat) (acc : List V) (at_ : Nat), k ≤ n ∧ v10 = .int .i64 k ∧ acc.length = k ∧ v9 = .int .i64 at_ ∧ at_ ≤ L ∧ rget T b = rvals b k (T.drop k) acc (b.drop at_) ∧
        wr.ownsRow w.heap.size 46 3 v8 acc.length (vcells acc) ∧ Below w.heap.size w wr) (fun _ _ v10 _ => n - (intOf v10).toNat)
    case atStart => exact ⟨0, [], m, by omega, rfl, rfl, rfl, hmL, HR2.out, World.ownsRow_nil _ _ _ _, Below.refl _ _⟩
    case round =>
      clear HR2
      obtain ⟨k, acc, at_, hk, rfl, hacc, rfl, hat, hrv, hown, hbel⟩ := hrel
      have HRV := Lib.hid hrv
      have HACC := Lib.hid hacc
      have haccn : acc.length ≤ n := by omega
      clear hrv hacc
      by_cases hlt : k < n
      case neg =>
        have hTd : T.drop k = [] := List.drop_eq_nil_of_le (by rw [← HN.out]; omega)
        have he : rget T b = if b.drop at_ = [] then (acc, 0) else ([], 21) := by rw [HRV.out, hTd]; rfl
        have HE := Lib.hid he
        have hge : (n : Int) ≤ (k : Int) := by omega
        clear he hTd
        by_cases haL : at_ = L
        · have HE2 : Hid (rget T b = (acc, 0)) := Lib.hid (by rw [HE.out, if_pos (List.drop_eq_nil_of_le (by rw [← HL.out]; omega))])
          have hI : ((at_ : Int) != (L : Int)) = false := by simp; omega
          clear HE haL
          go_wp2_with fail
          go_ret2
          exact retVE_ok HE2.out hown hbel
        · have HE2 : Hid (rget T b = ([], 21)) := Lib.hid (by
            rw [HE.out, if_neg]
            intro h
            have := congrArg List.length h
            rw [List.length_drop, ← HL.out] at this
            simp at this; omega)
          have hI : ((at_ : Int) != (L : Int)) = true := by simp; omega
          clear HE haL
          go_wp2_with fail
          go_ret2
          exact retVE_err HE2.out hbel
      have hib := hmap2 k hlt
      obtain ⟨bb, oo, rfl, hbb, _⟩ := rd_cell hb hib
      obtain ⟨X, hX, hcell0, hbit⟩ := bit_facts hb k hib
      have hcell := (hbel.cell (p := ⟨bb, oo + k / 8, none⟩) (by show bb < _; omega)).trans hcell0
      obtain ⟨bi, hbi⟩ : ∃ x, x = bitAt b k := ⟨_, rfl⟩
      rw [← hbi] at hbit
      obtain ⟨j, hj⟩ : ∃ j, j = k / 8 := ⟨_, rfl⟩
      rw [← hj] at hcell hib
      have hjI : (k : Int) / 8 = (j : Int) := by omega
      have hjL : j < L := by rw [HL.out]; exact hib
      have hjLI : (j : Int) < (L : Int) := by omega
      have HBI := Lib.hid hbi
      obtain ⟨t, ht⟩ : ∃ t, T[k]? = some t := ⟨_, List.getElem?_eq_getElem (by rw [← HN.out]; exact hlt)⟩
      obtain ⟨hbk, ho, rfl, hhb, hc⟩ := rd_cell hT (show k < T.length by rw [← HN.out]; exact hlt)
      have p0 := hc k (by rw [← HN.out]; exact hlt)
      rw [show T[k]'(by rw [← HN.out]; exact hlt) = t by rw [List.getElem?_eq_getElem (by rw [← HN.out]; exact hlt)] at ht; exact Option.some.inj ht] at p0
      have F2 : ∀ w', Below w.heap.size w w' → w'.cell? ⟨hbk, ho + k, none⟩ = some (.int .u8 (t.toNat : Int)) := fun w' h => (h.cell (p := ⟨hbk, ho + k, none⟩) (by show hbk < _; omega)).trans p0
      have hkI : (k : Int) < (n : Int) := by omega
      have h123 := HKT.out k t ht
      have hTd : T.drop k = t :: T.drop (k + 1) := by
        rw [List.getElem?_eq_getElem (by rw [← HN.out]; exact hlt)] at ht
        rw [← Option.some.inj ht]; exact List.drop_eq_getElem_cons _
      have HTD := Lib.hid hTd
      clear hbi hj hib hTd p0 hc hcell0
      cases bi
      case true =>
        have hst : rget T b = rvals b (k + 1) (T.drop (k + 1)) (acc ++ [null]) (b.drop at_) := by
          rw [HRV.out, HTD.out]
          show (if bitAt b k then _ else _) = _
          rw [← HBI.out, if_pos rfl]
        have HST := Lib.hid hst
        clear hst
        go_wp2_with (at_builtin; refine wpList_app HEL rfl _ _ rfl (hown.alloc _) rfl rfl (cv_three null rfl) rfl (cv_one _) (by unfold maxLen; omega) (by have : (acc.length + 1) * by_ ≤ 4294967297 * 64 := Nat.mul_le_mul (by omega) hby; omega) (by have := hbel.size; simp; omega) ?_; intro v4 w4 hown4 hg4 ho4)
        have hb4 : Below w.heap.size w w4 := (hbel.alloc hbel.size _).trans (own_below (hown.alloc _) hg4 (by have := hbel.size; simp; omega))
        go_roundw
        case rel =>
          refine ⟨k + 1, acc ++ [null], at_, by omega, by go_num, by simp [HACC.out], rfl, hat, HST.out, ?_, hb4⟩
          rw [vcells_snoc, List.length_append, List.length_singleton]; exact hown4
        case measure => simp [intOf]; omega
      obtain ⟨rest, hrest⟩ : ∃ r, r = b.drop at_ := ⟨_, rfl⟩
      have hrl : rest.length = L - at_ := by rw [hrest, List.length_drop, ← HL.out]
      obtain ⟨A6, c6, hsl6, hrd6, hc6⟩ := from_any (l := b) c' at_ (by rw [← HL.out]; exact hat) (by rw [← HL.out]; exact hcb) (hb.below (hbel.mono hB))
      have hsl7 := fun w' => hsl6 w' (at_ : Int) rfl
      rw [← HL.out, ← hrest] at hsl7
      rw [← hrest] at hrd6 hc6
      have hst : rget T b = if (vread t rest).2.2 ≠ 0 then ([], (vread t rest).2.2) else rvals b (k + 1) (T.drop (k + 1)) (acc ++ [(vread t rest).1]) (rest.drop (vread t rest).2.1) := by
        rw [HRV.out, HTD.out, hrest]
        show (if bitAt b k then _ else _) = _
        rw [← HBI.out, if_neg (by simp)]
      have hvl := vread_le t rest
      have G0 := fun (w' : World) (h : Rd w' B A6 (cells rest)) (hB' : B ≤ w'.heap.size) => rValue_any t h123 B A6 c6 rest w' h hc6 hB' (by omega)
      generalize vread t rest = x at *
      obtain ⟨v, kk, er⟩ := x
      dsimp only at hvl hst
      have HG := Lib.hid G0
      have HST := Lib.hid hst
      have ht256 := t.toNat_lt
      have hs6 := hbel.size
      have hBr : B ≤ wr.heap.size := Nat.le_trans hB hs6
      have HREST := Lib.hid hrest
      have HRLEN := Lib.hid hrl
      have hratl : at_ + rest.length ≤ L := by omega
      clear G0 hst h123 hsl6 hrest hrl
      go_wp2_with fail
      refine ah_start 16 (fun w' => Below w.heap.size w w' ∧ Below wr.heap.size wr w') rfl (by kernel_rfl) ⟨hbel.drew, (Below.refl _ _).drew⟩ ?_ ; intro hS
      (refine mv_val 0 (v := ?_) rfl (by kernel_rfl) (by kernel_rfl) (by kernel_rfl) (fun _ _ _ h => h) (by rfl) hS ?_ ?_; rotate_left; (focus (intro w hSw; (try dsimp only at hSw); (have f1 := F2 w hSw.1; have f2 := hsl7 w; have f3 := hlt; have f4 := hkI); go_simp; first | done | with_reducible rfl)); simp only [Act.put, List.setIfInBounds_toArray, List.set_cons_zero, List.set_cons_succ])
      (refine mv_val 1 (v := ?_) rfl (by kernel_rfl) (by kernel_rfl) (by kernel_rfl) (fun _ _ _ h => h) (by rfl) hS ?_ ?_; rotate_left; (focus (intro w hSw; (try dsimp only at hSw); (have f1 := F2 w hSw.1; have f2 := hsl7 w; have f3 := hlt; have f4 := hkI); go_simp; first | done | with_reducible rfl)); simp only [Act.put, List.setIfInBounds_toArray, List.set_cons_zero, List.set_cons_succ])
      (refine mv_val 2 (v := ?_) rfl (by kernel_rfl) (by kernel_rfl) (by kernel_rfl) (fun _ _ _ h => h) (by rfl) hS ?_ ?_; rotate_left; (focus (intro w hSw; (try dsimp only at hSw); (have f1 := F2 w hSw.1; have f2 := hsl7 w; have f3 := hlt; have f4 := hkI); go_simp; first | done | with_reducible rfl)); simp only [Act.put, List.setIfInBounds_toArray, List.set_cons_zero, List.set_cons_succ])
      (refine mv_val 3 (v := ?_) rfl (by kernel_rfl) (by kernel_rfl) (by kernel_rfl) (fun _ _ _ h => h) (by rfl) hS ?_ ?_; rotate_left; (focus (intro w hSw; (try dsimp only at hSw); (have f1 := F2 w hSw.1; have f2 := hsl7 w; have f3 := hlt; have f4 := hkI); go_simp; first | done | with_reducible rfl)); simp only [Act.put, List.setIfInBounds_toArray, List.set_cons_zero, List.set_cons_succ])
      (refine mv_val 4 (v := ?_) rfl (by kernel_rfl) (by kernel_rfl) (by kernel_rfl) (fun _ _ _ h => h) (by rfl) hS ?_ ?_; rotate_left; (focus (intro w hSw; (try dsimp only at hSw); (have f1 := F2 w hSw.1; have f2 := hsl7 w; have f3 := hlt; have f4 := hkI); go_simp; first | done | with_reducible rfl)); simp only [Act.put, List.setIfInBounds_toArray, List.set_cons_zero, List.set_cons_succ])
      (refine mv_val 5 (v := ?_) rfl (by kernel_rfl) (by kernel_rfl) (by kernel_rfl) (fun _ _ _ h => h) (by rfl) hS ?_ ?_; rotate_left; (focus (intro w hSw; (try dsimp only at hSw); (have f1 := F2 w hSw.1; have f2 := hsl7 w; have f3 := hlt; have f4 := hkI); go_simp; first | done | with_reducible rfl)); simp only [Act.put, List.setIfInBounds_toArray, List.set_cons_zero, List.set_cons_succ])
      (refine mv_val 6 (v := ?_) rfl (by kernel_rfl) (by kernel_rfl) (by kernel_rfl) (fun _ _ _ h => h) (by rfl) hS ?_ ?_; rotate_left; (focus (intro w hSw; (try dsimp only at hSw); (have f1 := F2 w hSw.1; have f2 := hsl7 w; have f3 := hlt; have f4 := hkI); go_simp; first | done | with_reducible rfl)); simp only [Act.put, List.setIfInBounds_toArray, List.set_cons_zero, List.set_cons_succ])
      refine mv_two 7 12 rfl rfl (by kernel_rfl) (by rfl) (by rfl) (fun K hK => ?_) (fun K hK => ?_)
      · skip
        (refine wp_enter (f := ?_) (args := ?_) hK ?_ ?_; rotate_left 2; (focus (go_simp; first | done | with_reducible rfl | (refine ⟨?_, ?_⟩ <;> with_reducible rfl))); clear hK K)
        refine (HG.out _ (hrd6.below (hS.2.mono hBr)) (Nat.le_trans hBr hS.2.size)).mono ?_; rintro e w2 ⟨rfl, hb2⟩
        have hS2 : Below w.heap.size w w2 ∧ Below wr.heap.size wr w2 := ⟨hS.1.trans (hb2.mono hS.1.size), hS.2.trans (hb2.mono hS.2.size)⟩
        refine ⟨_, rfl, hS2, ?_⟩
        replace hS := hS2
        clear hS2
        simp only [Act.put, List.setIfInBounds_toArray, List.set_cons_zero, List.set_cons_succ]
        (refine mv_val 8 (v := ?_) rfl (by kernel_rfl) (by kernel_rfl) (by kernel_rfl) (fun _ _ _ h => h) (by rfl) hS ?_ ?_; rotate_left; (focus (intro w hSw; (try dsimp only at hSw); (have f1 := F2 w hSw.1; have f2 := hsl7 w; have f3 := hlt; have f4 := hkI); go_simp; first | done | with_reducible rfl)); simp only [Act.put, List.setIfInBounds_toArray, List.set_cons_zero, List.set_cons_succ])
        (refine mv_val 9 (v := ?_) rfl (by kernel_rfl) (by kernel_rfl) (by kernel_rfl) (fun _ _ _ h => h) (by rfl) hS ?_ ?_; rotate_left; (focus (intro w hSw; (try dsimp only at hSw); (have f1 := F2 w hSw.1; have f2 := hsl7 w; have f3 := hlt; have f4 := hkI); go_simp; first | done | with_reducible rfl)); simp only [Act.put, List.setIfInBounds_toArray, List.set_cons_zero, List.set_cons_succ])
        (refine mv_val 10 (v := ?_) rfl (by kernel_rfl) (by kernel_rfl) (by kernel_rfl) (fun _ _ _ h => h) (by rfl) hS ?_ ?_; rotate_left; (focus (intro w hSw; (try dsimp only at hSw); (have f1 := F2 w hSw.1; have f2 := hsl7 w; have f3 := hlt; have f4 := hkI); go_simp; first | done | with_reducible rfl)); simp only [Act.put, List.setIfInBounds_toArray, List.set_cons_zero, List.set_cons_succ])
        (refine mv_val 11 (v := ?_) rfl (by kernel_rfl) (by kernel_rfl) (by kernel_rfl) (fun _ _ _ h => h) (by rfl) hS ?_ ?_; rotate_left; (focus (intro w hSw; (try dsimp only at hSw); (have f1 := F2 w hSw.1; have f2 := hsl7 w; have f3 := hlt; have f4 := hkI); go_simp; first | done | with_reducible rfl)); simp only [Act.put, List.setIfInBounds_toArray, List.set_cons_zero, List.set_cons_succ])
        refine mv_step 12 rfl (by kernel_rfl) (by rfl) (fun K hK => ?_)
        go_simp
        refine hK _ _ ?_ ?_ <;> clear hK K
        · exact ⟨hS.1.alloc hS.1.size _, hS.2.alloc hS.2.size _⟩
        have hS3 : Below w.heap.size w (w2.alloc (.cells #[.int .u8 0, .int .i64 0, .string ByteArray.empty] 46)) ∧ Below wr.heap.size wr (w2.alloc (.cells #[.int .u8 0, .int .i64 0, .string ByteArray.empty] 46)) := ⟨hS.1.alloc hS.1.size _, hS.2.alloc hS.2.size _⟩
        have hSold := hS
        replace hS := hS3
        clear hS3
        try simp only [Act.put, List.setIfInBounds_toArray, List.set_cons_zero, List.set_cons_succ]
        refine mv_step 13 rfl (by kernel_rfl) (by rfl) (fun K hK => ?_)
        go_simp
        refine hK _ _ ?_ ?_ <;> clear hK K
        · exact ⟨hSold.1.alloc hSold.1.size _, hSold.2.alloc hSold.2.size _⟩
        have hS3 : Below w.heap.size w (w2.alloc (.cells #[.int .u8 (v.k : Int), .int .i64 v.n, txt v.t] 46)) ∧ Below wr.heap.size wr (w2.alloc (.cells #[.int .u8 (v.k : Int), .int .i64 v.n, txt v.t] 46)) := ⟨hSold.1.alloc hSold.1.size _, hSold.2.alloc hSold.2.size _⟩
        replace hS := hS3
        clear hS3
        try simp only [Act.put, List.setIfInBounds_toArray, List.set_cons_zero, List.set_cons_succ]
        (refine mv_val 14 (v := ?_) rfl (by kernel_rfl) (by kernel_rfl) (by kernel_rfl) (fun _ _ _ h => h) (by rfl) hS ?_ ?_; rotate_left; (focus (intro w hSw; (try dsimp only at hSw); (have f1 := F2 w hSw.1; have f2 := hsl7 w; have f3 := hlt; have f4 := hkI); go_simp; first | done | with_reducible rfl)); simp only [Act.put, List.setIfInBounds_toArray, List.set_cons_zero, List.set_cons_succ])
        (refine mv_val 15 (v := ?_) rfl (by kernel_rfl) (by kernel_rfl) (by kernel_rfl) (fun _ _ _ h => h) (by rfl) hS ?_ ?_; rotate_left; (focus (intro w hSw; (try dsimp only at hSw); (have f1 := F2 w hSw.1; have f2 := hsl7 w; have f3 := hlt; have f4 := hkI); go_simp; first | done | with_reducible rfl)); simp only [Act.put, List.setIfInBounds_toArray, List.set_cons_zero, List.set_cons_succ])
        refine wpAnyH_done (by kernel_rfl) ?_ _
        obtain ⟨d0, d1, d2⟩ := cv_block w2 (.int .u8 (v.k : Int)) (.int .i64 v.n) (txt v.t) 46
        obtain ⟨w7, hw7⟩ : ∃ w7, w7 = w2.alloc (.cells #[.int .u8 (v.k : Int), .int .i64 v.n, txt v.t] 46) := ⟨_, rfl⟩
        rw [← hw7] at d0 d1 d2 hS ⊢
        have hown7 := own_bel hown hS.2
        have hb7 := hS.1
        clear hw7 hSold
        by_cases her : er = 0
        case neg =>
          have he : rget T b = ([], er) := by rw [HST.out, if_pos her]
          have HE := Lib.hid he
          have herI : ((er : Int) != 0) = true := by simp; omega
          clear he her
          go_wp2_with fail
          go_ret2
          exact retVE_err HE.out hb7
        have hst2 : rget T b = rvals b (k + 1) (T.drop (k + 1)) (acc ++ [v]) (b.drop (at_ + kk)) := by
          rw [HST.out, if_neg (by simpa using her), HREST.out, List.drop_drop]
        have HST2 := Lib.hid hst2
        have hkk : kk ≤ rest.length := by
          rcases hvl with h | h | h
          · exact h.1
          · exact absurd her h
          · unfold maxLen at h; omega
        have herI : ((er : Int) != 0) = false := by simp; omega
        clear hst2 her hvl HST
        go_wp2_with (at_builtin; refine wpList_app HEL rfl _ _ rfl (hown7.alloc _) rfl rfl (cv_three v rfl) rfl (cv_one _) (by unfold maxLen; omega) (by have : (acc.length + 1) * by_ ≤ 4294967297 * 64 := Nat.mul_le_mul (by omega) hby; omega) (by have := hb7.size; simp; omega) ?_; intro v4 w4 hown4 hg4 ho4)
        have hb4 : Below w.heap.size w w4 := (hb7.alloc hb7.size _).trans (own_below (hown7.alloc _) hg4 (by have := hb7.size; simp; omega))
        go_roundw
        case rel =>
          refine ⟨k + 1, acc ++ [v], at_ + kk, by omega, by go_num, by simp [HACC.out], by go_num, by omega, HST2.out, ?_, hb4⟩
          rw [vcells_snoc, List.length_append, List.length_singleton]; exact hown4
        case measure => simp [intOf]; omega
      · skip
        go_simp
        refine hK _ _ ?_ ?_ <;> clear hK K
        · exact ⟨hS.1.alloc hS.1.size _, hS.2.alloc hS.2.size _⟩
        obtain ⟨w5, hw5⟩ : ∃ w5, w5 = (wr.alloc (.cells #[.int .u8 0, .int .i64 0, .string ⟨#[]⟩] 46)).drew := ⟨_, rfl⟩
        have hS5 : Below w.heap.size w w5 ∧ Below wr.heap.size wr w5 := by rw [hw5]; exact ⟨hS.1.alloc hS.1.size _, hS.2.alloc hS.2.size _⟩
        have hz5 : w5.heap.size = wr.heap.size + 1 := by rw [hw5]; simp
        have hblk : w5.heap[wr.heap.size]? = some (.cells #[.int .u8 0, .int .i64 0, .string ⟨#[]⟩] 46 (0, 0)) := by rw [hw5]; exact heap_alloc_new wr _
        have e5 : (wr.drew.alloc (.cells #[.int .u8 0, .int .i64 0, .string ⟨#[]⟩] 46)) = w5 := by rw [hw5]; rfl
        rw [← hw5]
        clear hw5 e5
        replace hS := hS5
        clear hS5
        try simp only [Act.put, List.setIfInBounds_toArray, List.set_cons_zero, List.set_cons_succ]
        (refine mv_call 7 (f := ?_) (args := ?_) rfl (by kernel_rfl) (by rfl) ?_ ?_; rotate_left 2; (focus (go_simp; first | done | with_reducible rfl | (refine ⟨?_, ?_⟩ <;> with_reducible rfl))))
        refine (HG.out _ (hrd6.below (hS.2.mono hBr)) (Nat.le_trans hBr hS.2.size)).mono ?_; rintro e w2 ⟨rfl, hb2⟩
        have hS2 : Below w.heap.size w w2 ∧ Below wr.heap.size wr w2 := ⟨hS.1.trans (hb2.mono hS.1.size), hS.2.trans (hb2.mono hS.2.size)⟩
        refine ⟨_, rfl, hS2, ?_⟩
        have hblk2 := (hb2.block wr.heap.size (by omega)).trans hblk
        obtain ⟨g0, g1, g2⟩ := three_cells hblk2
        obtain ⟨n0, n1, n2⟩ := three_free hblk2
        replace hS := hS2
        clear hS2 hblk
        simp only [Act.put, List.setIfInBounds_toArray, List.set_cons_zero, List.set_cons_succ]
        (refine mv_val 8 (v := ?_) rfl (by kernel_rfl) (by kernel_rfl) (by kernel_rfl) (fun _ _ _ h => h) (by rfl) hS ?_ ?_; rotate_left; (focus (intro w hSw; (try dsimp only at hSw); (have f1 := F2 w hSw.1; have f2 := hsl7 w; have f3 := hlt; have f4 := hkI); go_simp; first | done | with_reducible rfl)); simp only [Act.put, List.setIfInBounds_toArray, List.set_cons_zero, List.set_cons_succ])
        (refine mv_val 9 (v := ?_) rfl (by kernel_rfl) (by kernel_rfl) (by kernel_rfl) (fun _ _ _ h => h) (by rfl) hS ?_ ?_; rotate_left; (focus (intro w hSw; (try dsimp only at hSw); (have f1 := F2 w hSw.1; have f2 := hsl7 w; have f3 := hlt; have f4 := hkI); go_simp; first | done | with_reducible rfl)); simp only [Act.put, List.setIfInBounds_toArray, List.set_cons_zero, List.set_cons_succ])
        (refine mv_val 10 (v := ?_) rfl (by kernel_rfl) (by kernel_rfl) (by kernel_rfl) (fun _ _ _ h => h) (by rfl) hS ?_ ?_; rotate_left; (focus (intro w hSw; (try dsimp only at hSw); (have f1 := F2 w hSw.1; have f2 := hsl7 w; have f3 := hlt; have f4 := hkI); go_simp; first | done | with_reducible rfl)); simp only [Act.put, List.setIfInBounds_toArray, List.set_cons_zero, List.set_cons_succ])
        (refine mv_val 11 (v := ?_) rfl (by kernel_rfl) (by kernel_rfl) (by kernel_rfl) (fun _ _ _ h => h) (by rfl) hS ?_ ?_; rotate_left; (focus (intro w hSw; (try dsimp only at hSw); (have f1 := F2 w hSw.1; have f2 := hsl7 w; have f3 := hlt; have f4 := hkI); go_simp; first | done | with_reducible rfl)); simp only [Act.put, List.setIfInBounds_toArray, List.set_cons_zero, List.set_cons_succ])
        refine mv_step 13 rfl (by kernel_rfl) (by rfl) (fun K hK => ?_)
        go_simp
        refine hK _ _ ?_ ?_ <;> clear hK K
        · exact ⟨three_below hS.1 hs6 _ _ _, three_below hS.2 (Nat.le_refl _) _ _ _⟩
        obtain ⟨w7, hw7⟩ : ∃ w7, w7 = ((w2.setCell ⟨wr.heap.size, 0, none⟩ (.int .u8 (v.k : Int))).setCell ⟨wr.heap.size, 1, none⟩ (.int .i64 v.n)).setCell ⟨wr.heap.size, 2, none⟩ (txt v.t) := ⟨_, rfl⟩
        have hS7 : Below w.heap.size w w7 ∧ Below wr.heap.size wr w7 := by rw [hw7]; exact ⟨three_below hS.1 hs6 _ _ _, three_below hS.2 (Nat.le_refl _) _ _ _⟩
        obtain ⟨d0, d1, d2⟩ := three_cells (three_set hblk2 (.int .u8 (v.k : Int)) (.int .i64 v.n) (txt v.t))
        rw [← hw7] at d0 d1 d2 ⊢
        clear hw7 g0 g1 g2 n0 n1 n2 hblk2
        replace hS := hS7
        clear hS7
        try simp only [Act.put, List.setIfInBounds_toArray, List.set_cons_zero, List.set_cons_succ]
        (refine mv_val 14 (v := ?_) rfl (by kernel_rfl) (by kernel_rfl) (by kernel_rfl) (fun _ _ _ h => h) (by rfl) hS ?_ ?_; rotate_left; (focus (intro w hSw; (try dsimp only at hSw); (have f1 := F2 w hSw.1; have f2 := hsl7 w; have f3 := hlt; have f4 := hkI); go_simp; first | done | with_reducible rfl)); simp only [Act.put, List.setIfInBounds_toArray, List.set_cons_zero, List.set_cons_succ])
        (refine mv_val 15 (v := ?_) rfl (by kernel_rfl) (by kernel_rfl) (by kernel_rfl) (fun _ _ _ h => h) (by rfl) hS ?_ ?_; rotate_left; (focus (intro w hSw; (try dsimp only at hSw); (have f1 := F2 w hSw.1; have f2 := hsl7 w; have f3 := hlt; have f4 := hkI); go_simp; first | done | with_reducible rfl)); simp only [Act.put, List.setIfInBounds_toArray, List.set_cons_zero, List.set_cons_succ])
        refine wpAnyH_done (by kernel_rfl) ?_ _
        have hown7 := own_bel hown hS.2
        have hb7 := hS.1
        by_cases her : er = 0
        case neg =>
          have he : rget T b = ([], er) := by rw [HST.out, if_pos her]
          have HE := Lib.hid he
          have herI : ((er : Int) != 0) = true := by simp; omega
          clear he her
          go_wp2_with fail
          go_ret2
          exact retVE_err HE.out hb7
        have hst2 : rget T b = rvals b (k + 1) (T.drop (k + 1)) (acc ++ [v]) (b.drop (at_ + kk)) := by
          rw [HST.out, if_neg (by simpa using her), HREST.out, List.drop_drop]
        have HST2 := Lib.hid hst2
        have hkk : kk ≤ rest.length := by
          rcases hvl with h | h | h
          · exact h.1
          · exact absurd her h
          · unfold maxLen at h; omega
        have herI : ((er : Int) != 0) = false := by simp; omega
        clear hst2 her hvl HST
        go_wp2_with (at_builtin; refine wpList_app HEL rfl _ _ rfl (hown7.alloc _) rfl rfl (cv_three v rfl) rfl (cv_one _) (by unfold maxLen; omega) (by have : (acc.length + 1) * by_ ≤ 4294967297 * 64 := Nat.mul_le_mul (by omega) hby; omega) (by have := hb7.size; simp; omega) ?_; intro v4 w4 hown4 hg4 ho4)
        have hb4 : Below w.heap.size w w4 := (hb7.alloc hb7.size _).trans (own_below (hown7.alloc _) hg4 (by have := hb7.size; simp; omega))
        go_roundw
        case rel =>
          refine ⟨k + 1, acc ++ [v], at_ + kk, by omega, by go_num, by simp [HACC.out], by go_num, by omega, HST2.out, ?_, hb4⟩
          rw [vcells_snoc, List.length_append, List.length_singleton]; exact hown4
        case measure => simp [intOf]; omega
end Go.Proofs.Ythkpgjcnnfdibaa.Rw

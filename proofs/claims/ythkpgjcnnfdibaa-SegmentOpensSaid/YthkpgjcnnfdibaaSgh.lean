/- Joined texts: see the remark ahead of each part. No condition but those that the parts name. -/
import Derived.Test.YthkpgjcnnfdibaaSgf
import Derived.Deep.DeepCutAuto
/-! The walks of the reference's Cut, Columns, Bounds (layer 7). No condition but sizes. -/
namespace Go.Proofs.Ythkpgjcnnfdibaa
open Go.RowKit Go.Maps
set_option linter.unusedVariables false
set_option linter.unusedSimpArgs false

/-- 'b[:m]' of bytes that are read -/
theorem head_any {w : World} {B : Nat} {A : Option Addr} {l : List UInt8} (c m : Nat) (hm : m ≤ l.length) (hc : l.length ≤ c) (hr : Rd w B A (cells l)) :
    (∀ w' (z : Int), z = m → (Instr.sliceAt 22 (.slice A l.length c) none (some (.int .i64 z)) none).run Try.prog w' = .ok (.slice A (l.take m).length c) w') ∧ Rd w B A (cells (l.take m)) ∧ (l.take m).length ≤ c := by
  have hlen : (l.take m).length = m := by rw [List.length_take]; omega
  exact ⟨fun w' z hz => by rw [hlen]; exact upto_any m hm hc w' z hz, by unfold cells at *; rw [List.map_take]; exact hr.take m, by omega⟩
set_option maxHeartbeats 2000000 in
set_option maxRecDepth 100000 in
theorem rcut_any (B : Nat) (A : Option Addr) (c : Nat) (b : List UInt8) (w : World) (hr : Rd w B A (cells b)) (hc : b.length ≤ c) (hB : B ≤ w.heap.size) (hb : b ≠ []) (hl : b.length ≤ 4000000000) :
    Calls Try.prog 35 #[.slice A b.length c] w (RetBB w (chunk b)) := by
  have hpos : 0 < b.length := List.length_pos_iff.2 hb
  clear hb
  go_enter Try.func35, Try.ntmps35
  go_wp2_with fail
  go_loopw [0, 3] (fun v0 v3 wr => ∃ (j : Nat) (A' : Option Addr) (c' : Nat), 1000 * j < b.length ∧ v0 = .slice A' (b.drop (1000 * j)).length c' ∧ Rd w B A' (cells (b.drop (1000 * j))) ∧ (b.drop (1000 * j)).length ≤ c' ∧ OwnBB wr w.heap.size v3 ((chunk b).take j) ∧ Below w.heap.size w wr) (fun v0 _ _ => (match v0 with | .slice _ n _ => n | _ => 0))
  case atStart => exact ⟨0, A, c, by omega, by simp, by simpa using hr, by simpa using hc, OwnN.nil _ _, Below.refl _ _⟩
  case round =>
    obtain ⟨j, A', c', hj, rfl, hrd, hcd, hown, hbel⟩ := hrel
    obtain ⟨A3, c3, rfl, hc3⟩ := hown.form
    have hjm : j < many b.length := many_lt.1 hj
    have hlk : ((chunk b).take j).length = j := by rw [List.length_take, chunk_length]; omega
    rw [hlk] at hown ⊢
    have HO := Lib.hid hown
    have HLK := Lib.hid hlk
    have hbs := hbel.size
    have HTK := Lib.hid (chunk_take hjm)
    have hj6 : j ≤ 4000000 := by omega
    have hld : (b.drop (1000 * j)).length = b.length - 1000 * j := List.length_drop
    clear hown hlk hc3
    by_cases hlt : 1000 < (b.drop (1000 * j)).length
    case pos =>
      obtain ⟨e1, r1, _⟩ := head_any c' 1000 (by omega) hcd hrd
      obtain ⟨A5, c5, e2, r2, l2⟩ := from_any c' 1000 (by omega) hcd hrd
      rw [List.drop_drop, show 1000 * j + 1000 = 1000 * (j + 1) by omega] at e2 r2 l2
      have hxe : (b.drop (1000 * j)).take 1000 = pieceAt b j := rfl
      rw [hxe] at e1 r1
      have hxl := pieceAt_length b j
      obtain ⟨x, hx⟩ : ∃ x, x = pieceAt b j := ⟨_, rfl⟩
      rw [← hx] at e1 r1 HTK hxl
      have hxl2 : x.length ≤ 1000 := by omega
      have f1 := fun w' => e1 w' 1000 rfl
      have f2 := fun w' => e2 w' 1000 rfl
      have hd2 : (b.drop (1000 * (j + 1))).length = b.length - 1000 * (j + 1) := List.length_drop
      obtain ⟨y, hy⟩ : ∃ y, y = b.drop (1000 * (j + 1)) := ⟨_, rfl⟩
      rw [← hy] at f2 r2 l2 hd2
      have HY := Lib.hid hy
      obtain ⟨n, hn⟩ : ∃ n, n = (b.drop (1000 * j)).length := ⟨_, rfl⟩
      rw [← hn] at f1 f2 hlt hld ⊢
      have hltI : (1000 : Int) < (n : Int) := by omega
      have R1 := Lib.hid (show Rd (wr.alloc (.cells #[] 5)) (wr.heap.size + 1) A' (cells x) from ((r1.below (hbel.mono hB)).alloc (by omega) _).more (by omega))
      have R2 := Lib.hid r2
      have HD2 := Lib.hid hd2
      have HLD := Lib.hid hld
      clear hxe hxl hx e1 e2 r1 r2 hy hn hrd hcd hd2 hld
      go_wp2_with (first
        | (at_builtin; refine wpList_app El_u8 rfl _ _ rfl (lit0B wr) rfl rfl R1.out (by simp : (cells x).length = x.length * 1) (cells_one x) (by unfold maxLen; omega) (by omega) (by simp) ?_; intro v4 w4 hown4 hg4 _; rw [Nat.zero_add, List.nil_append] at hown4; obtain ⟨A4, c4, rfl, hc4⟩ := own_form hown4; have hb4 : Below wr.heap.size wr w4 := ((Below.refl _ wr).alloc (Nat.le_refl _) _).trans (own_below (lit0B wr) hg4 (by simp)); obtain ⟨ss, own5, hssl, happ⟩ := OwnN.app (s := (A4, x.length, c4)) (b := x) (by decide) HO.out hb4 hbs rfl hown4 (.cells #[.slice A4 x.length c4] 22); have HAPP := Lib.hid happ; have HSSL := Lib.hid hssl; have hssm : ss.length ≤ 4000000 := Nat.le_trans (Nat.le_of_eq (hssl.trans HLK.out)) hj6; clear happ hssl hown4 hg4)
        | (at_builtin; refine wpList_app El_bs rfl _ _ rfl own5 rfl rfl (by exact rd_one _ _ _ _ _ rfl (Nat.lt_add_one _)) rfl (by intro u hu; simp at hu; subst hu; rfl) (by unfold maxLen; omega) (by omega) (by have := hb4.size; simp; omega) ?_; intro v6 w6 hown6 hg6 _))
      have hb6 : Below w.heap.size w w6 := ((hbel.trans (hb4.mono hbs)).alloc (by have := hb4.size; omega) _).trans (own_below own5 hg6 (by have := hb4.size; simp; omega))
      go_roundw
      case rel => exact ⟨j + 1, A5, c5, by have := HLD.out; omega, by rw [HY.out], by rw [← HY.out]; exact R2.out, by rw [← HY.out]; exact l2, by rw [HTK.out]; exact HAPP.out w6 _ hown6 hg6, hb6⟩
      case measure => have := HD2.out; have := HLD.out; simp; omega
    have hjm2 : j + 1 = many b.length := by unfold many at hjm ⊢; omega
    have hxe : b.drop (1000 * j) = pieceAt b j := by unfold pieceAt; rw [List.take_of_length_le (by omega)]
    have HE := Lib.hid (show (chunk b).take (j + 1) = chunk b by rw [List.take_of_length_le (by rw [chunk_length]; omega)])
    rw [hxe] at hrd hcd hlt hld ⊢
    obtain ⟨x, hx⟩ : ∃ x, x = pieceAt b j := ⟨_, rfl⟩
    rw [← hx] at hrd hcd HTK hlt hld ⊢
    have hltI : ¬ (1000 : Int) < (x.length : Int) := by omega
    have R1 := Lib.hid (show Rd (wr.alloc (.cells #[] 5)) (wr.heap.size + 1) A' (cells x) from ((hrd.below (hbel.mono hB)).alloc (by omega) _).more (by omega))
    have hxl : x.length ≤ 1000 := by omega
    clear hxe hx hrd hjm2 hld
    go_wp2_with (first
      | (at_builtin; refine wpList_app El_u8 rfl _ _ rfl (lit0B wr) rfl rfl R1.out (by simp : (cells x).length = x.length * 1) (cells_one x) (by unfold maxLen; omega) (by omega) (by simp) ?_; intro v4 w4 hown4 hg4 _; rw [Nat.zero_add, List.nil_append] at hown4; obtain ⟨A4, c4, rfl, hc4⟩ := own_form hown4; have hb4 : Below wr.heap.size wr w4 := ((Below.refl _ wr).alloc (Nat.le_refl _) _).trans (own_below (lit0B wr) hg4 (by simp)); obtain ⟨ss, own5, hssl, happ⟩ := OwnN.app (s := (A4, x.length, c4)) (b := x) (by decide) HO.out hb4 hbs rfl hown4 (.cells #[.slice A4 x.length c4] 22); have HAPP := Lib.hid happ; have HSSL := Lib.hid hssl; have hssm : ss.length ≤ 4000000 := Nat.le_trans (Nat.le_of_eq (hssl.trans HLK.out)) hj6; clear happ hssl hown4 hg4)
      | (at_builtin; refine wpList_app El_bs rfl _ _ rfl own5 rfl rfl (by exact rd_one _ _ _ _ _ rfl (Nat.lt_add_one _)) rfl (by intro u hu; simp at hu; subst hu; rfl) (by unfold maxLen; omega) (by omega) (by have := hb4.size; simp; omega) ?_; intro v6 w6 hown6 hg6 _))
    have hb6 : Below w.heap.size w w6 := ((hbel.trans (hb4.mono hbs)).alloc (by have := hb4.size; omega) _).trans (own_below own5 hg6 (by have := hb4.size; simp; omega))
    go_ret
    refine retBB_of ?_ hb6
    rw [← HE.out, HTK.out]
    exact HAPP.out w6 _ hown6 hg6
set_option maxHeartbeats 2000000 in
set_option maxRecDepth 100000 in
theorem rcolumns_any (B : Nat) (A A' : Option Addr) (m c c' : Nat) (rows : List (List V)) (w : World) (hr : RdVV w B A' rows) (hB : B ≤ w.heap.size) (hm : m ≤ 1000000) (hl : rows.length ≤ 1000000) (hrl : ∀ r ∈ rows, r.length = m) :
    Calls Try.prog 22 #[.slice A m c, .slice A' rows.length c'] w (RetVV w (colsOf m rows)) := by
  obtain ⟨by_, HEL, hby⟩ := El_val
  have HRL := Lib.hid hrl
  clear hrl
  go_enter Try.func22, Try.ntmps22
  go_wp2_with fail
  go_loopw [5, 6] (fun v5 v6 wr => ∃ i : Nat, i ≤ m ∧ v6 = .int .i64 i ∧ OwnVV wr w.heap.size v5 ((colsOf m rows).take i) ∧ Below w.heap.size w wr) (fun _ v6 _ => m - (intOf v6).toNat)
  case atStart => exact ⟨0, by omega, rfl, OwnN.nil _ _, Below.refl _ _⟩
  case round =>
    obtain ⟨i, hi, rfl, hown, hbel⟩ := hrel
    obtain ⟨A5, c5, rfl, hc5⟩ := hown.form
    have hlk : ((colsOf m rows).take i).length = i := by rw [List.length_take, colsOf_length]; omega
    rw [hlk] at hown ⊢
    have HO := Lib.hid hown
    have HLK := Lib.hid hlk
    have hbs := hbel.size
    clear hown hlk hc5
    by_cases hlt : i < m
    case neg =>
      have hkk : i = m := by omega
      have hge : (m : Int) ≤ (i : Int) := by omega
      have HF := Lib.hid (show OwnVV wr w.heap.size (.slice A5 m c5) (colsOf m rows) by have h := HO.out; rw [hkk, List.take_of_length_le (by rw [colsOf_length]; omega)] at h; exact h)
      rw [hkk]
      clear hkk HO HLK
      go_wp2_with fail
      go_ret
      exact retVV_of HF.out hbel
    have hiI : (i : Int) < (m : Int) := by omega
    have HTK := Lib.hid (colsOf_take rows hlt)
    go_wp2_with fail
    obtain ⟨wq, hwq⟩ : ∃ w2, w2 = wr := ⟨_, rfl⟩
    subst hwq
    go_loopw [7, 8] (fun v7 v8 wr => ∃ k : Nat, k ≤ rows.length ∧ v8 = .int .i64 k ∧ wr.ownsRow wq.heap.size 46 3 v7 k (vcells ((colAt rows i).take k)) ∧ Below wq.heap.size wq wr) (fun _ v8 _ => rows.length - (intOf v8).toNat)
    case atStart => exact ⟨0, by omega, rfl, World.ownsRow_nil _ _ _ _, Below.refl _ _⟩
    case round =>
      obtain ⟨k, hk, rfl, own7, hbel2⟩ := hrel
      obtain ⟨A7, c7, rfl, hc7⟩ := own_form own7
      have hz2 := hbel2.size
      have hb02 : Below w.heap.size w wr := hbel.trans (hbel2.mono hbs)
      by_cases hlk : k < rows.length
      case neg =>
        have hkk : k = rows.length := by omega
        have hge : (rows.length : Int) ≤ (k : Int) := by omega
        have hcl := colAt_length rows i
        have own7' : wr.ownsRow wq.heap.size 46 3 (sl3 (A7, (colAt rows i).length, c7)) (colAt rows i).length (vcells (colAt rows i)) := by
          have h := own7; rw [hkk, List.take_of_length_le (by omega)] at h; rw [hcl]; exact h
        obtain ⟨ss, own9, hssl, happ⟩ := OwnN.app (s := (A7, (colAt rows i).length, c7)) (b := colAt rows i) (by decide) HO.out hbel2 hbs rfl own7' (.cells #[.slice A7 (colAt rows i).length c7] 37)
        have HAPP := Lib.hid happ
        have hssm : ss.length ≤ 1000000 := Nat.le_trans (Nat.le_of_eq (hssl.trans HLK.out)) (by omega)
        rw [hcl] at own9 HAPP
        rw [hkk]
        clear hkk happ hssl own7 own7' hcl
        go_wp2_with (at_builtin; refine wpList_app El_vs rfl _ _ rfl own9 rfl rfl (by exact rd_one _ _ _ _ _ rfl (Nat.lt_add_one _)) rfl (by intro u hu; simp at hu; subst hu; rfl) (by unfold maxLen; omega) (by omega) (by simp; omega) ?_; intro v9 w9 hown9 hg9 _)
        have hb9 : Below w.heap.size w w9 := (hb02.alloc (by omega) _).trans (own_below own9 hg9 (by simp; omega))
        go_roundw
        case rel => exact ⟨i + 1, by omega, by go_num, by rw [HTK.out]; exact HAPP.out w9 _ hown9 hg9, hb9⟩
        case measure => simp [intOf]; omega
      obtain ⟨r, hr0⟩ : ∃ r, rows[k]? = some r := ⟨_, List.getElem?_eq_getElem hlk⟩
      have hrl := HRL.out r (List.mem_of_getElem? hr0)
      obtain ⟨v, hv⟩ : ∃ v, r[i]? = some v := ⟨_, List.getElem?_eq_getElem (by omega)⟩
      obtain ⟨ga, oa, a1, ca, rfl, hga, q0, hca, hra⟩ := rdN_at hr hr0
      obtain ⟨gr, or, rfl, hgr, p0, p1, p2⟩ := rd_val hra hv
      have q1 := (hb02.cell (p := ⟨ga, oa + k, none⟩) (by show ga < _; omega)).trans q0
      have s0 := (hb02.cell (p := ⟨gr, or + i * 3, none⟩) (by show gr < _; omega)).trans p0
      have s1 := (hb02.cell (p := ⟨gr, or + i * 3 + 1, none⟩) (by show gr < _; omega)).trans p1
      have s2 := (hb02.cell (p := ⟨gr, or + i * 3 + 2, none⟩) (by show gr < _; omega)).trans p2
      have HCT := Lib.hid (colAt_take hr0 hv)
      have hkI : (k : Int) < (rows.length : Int) := by omega
      have hir : i < r.length := by omega
      have hirI : (i : Int) < (r.length : Int) := by omega
      have own7a := own7.alloc (.cells #[.int .u8 (v.k : Int), .int .i64 v.n, txt v.t] 46)
      clear q0 p0 p1 p2 hr0 hv hra hrl hlk
      go_wp2_with (at_builtin; refine wpList_app HEL rfl _ _ rfl own7a rfl rfl (by exact cv_three v rfl) rfl (cv_one _) (by unfold maxLen; omega) (by have : (k + 1) * by_ ≤ 1000001 * 64 := Nat.mul_le_mul (by omega) hby; omega) (by simp; omega) ?_; intro v9 w9 hown9 hg9 _)
      have hb9 : Below wq.heap.size wq w9 := (hbel2.alloc hz2 _).trans (own_below own7a hg9 (by simp; omega))
      rw [← vcells_snoc] at hown9
      go_roundw
      case rel => exact ⟨k + 1, by omega, by go_num, by rw [HCT.out]; exact hown9, hb9⟩
      case measure => simp [intOf]; omega
/-- What a call that answers two rows of values leaves. -/
def RetV2 (w : World) (x y : List V) (e : Ending) (w' : World) : Prop :=
  ∃ A c A' c', e = .returned (.tuple #[.slice A x.length c, .slice A' y.length c']) ∧ Rd w' w'.heap.size A (vcells x) ∧ Rd w' w'.heap.size A' (vcells y) ∧ Below w.heap.size w w'
set_option maxHeartbeats 4000000 in
set_option maxRecDepth 100000 in
theorem rbounds7_any (B : Nat) (A' : Option Addr) (c' : Nat) (cs : List (List V)) (w : World) (hr : RdVV w B A' cs) (hB : B ≤ w.heap.size) (hl : cs.length ≤ 1000000) (hok : ∀ l ∈ cs, l.length ≤ 4294967296 ∧ ∀ v ∈ l, good v) :
    Calls Try.prog 21 #[.slice A' cs.length c'] w (RetV2 w (least cs) (greatest cs)) := by
  obtain ⟨by_, HEL, hby⟩ := El_val
  have HOK := Lib.hid hok
  clear hok
  go_enter Try.func21, Try.ntmps21
  go_wp2_with fail
  go_loopw [4, 5, 6] (fun v4 v5 v6 wr => ∃ k : Nat, k ≤ cs.length ∧ v6 = .int .i64 k ∧ wr.ownsRow w.heap.size 46 3 v4 k (vcells (least (cs.take k))) ∧ wr.ownsRow w.heap.size 46 3 v5 k (vcells (greatest (cs.take k))) ∧ Ap v4 v5 ∧ Below w.heap.size w wr) (fun _ _ v6 _ => cs.length - (intOf v6).toNat)
  case atStart => exact ⟨0, by omega, rfl, World.ownsRow_nil _ _ _ _, World.ownsRow_nil _ _ _ _, .inl rfl, Below.refl _ _⟩
  case round =>
    obtain ⟨k, hk, rfl, own4, own5, hap, hbel⟩ := hrel
    obtain ⟨A4, c4, rfl, hc4⟩ := own_form own4
    obtain ⟨A5, c5, rfl, hc5⟩ := own_form own5
    have hbz := hbel.size
    by_cases hlt : k < cs.length
    case neg =>
      have hkk : k = cs.length := by omega
      have hge : (cs.length : Int) ≤ (k : Int) := by omega
      rw [hkk, List.take_length] at own4 own5
      have HF := Lib.hid (show RetV2 w (least cs) (greatest cs) (.returned (.tuple #[.slice A4 k c4, .slice A5 k c5])) wr from ⟨A4, c4, A5, c5, by rw [least_length, greatest_length, hkk], rd_own own4, rd_own own5, hbel⟩)
      clear hkk own4 own5 hap
      go_wp2_with fail
      go_ret2
      exact HF.out
    obtain ⟨l, hl0⟩ : ∃ l, cs[k]? = some l := ⟨_, List.getElem?_eq_getElem hlt⟩
    obtain ⟨hll, hlv⟩ := HOK.out l (List.mem_of_getElem? hl0)
    obtain ⟨ga, oa, a1, ca, rfl, hga, q0, hca, hra⟩ := rdN_at hr hl0
    have q1 := (hbel.cell (p := ⟨ga, oa + k, none⟩) (by show ga < _; omega)).trans q0
    have KB0 := rbounds_any B a1 ca l wr (hra.below (hbel.mono hB)) (by omega) hll
    rw [← bnds_eq l hlv] at KB0
    obtain ⟨e1, e2⟩ := least_take hl0
    obtain ⟨LO, hLO⟩ : ∃ L, L = least (cs.take k) := ⟨_, rfl⟩
    obtain ⟨HI, hHI⟩ : ∃ L, L = greatest (cs.take k) := ⟨_, rfl⟩
    rw [← hLO] at own4 e1
    rw [← hHI] at own5 e2
    obtain ⟨x, hx⟩ : ∃ x, x = (bnds l).1 := ⟨_, rfl⟩
    obtain ⟨y, hy⟩ : ∃ y, y = (bnds l).2 := ⟨_, rfl⟩
    rw [← hx, ← hy] at KB0
    rw [← hx] at e1
    rw [← hy] at e2
    have KB := Lib.hid KB0
    have E1 := Lib.hid e1
    have E2 := Lib.hid e2
    have hkI : (k : Int) < (cs.length : Int) := by omega
    clear KB0 e1 e2 hx hy hLO hHI hl0 hlv hll q0 hra
    go_wp2_with fail
    refine KB.out.mono ?_; rintro e w5 ⟨rfl, hb5⟩
    have own45 := own_bel own4 hb5
    have own55 := own_bel own5 hb5
    have hb05 : Below w.heap.size w w5 := hbel.trans (hb5.mono hbz)
    clear own4 own5 hbel hb5 q1 hbz
    go_upto_region 6 with fail
    obtain ⟨we, hwe⟩ : ∃ we, we = ((w5.alloc (.cells #[.int .u8 (x.k : Int), .int .i64 x.n, txt x.t] 46)).alloc (.cells #[.int .u8 (y.k : Int), .int .i64 y.n, txt y.t] 46)) := ⟨_, rfl⟩
    obtain ⟨x0, x1, x2⟩ := cv_block w5 (.int .u8 (x.k : Int)) (.int .i64 x.n) (txt x.t) 46
    obtain ⟨y0, y1, y2⟩ := cv_block (w5.alloc (.cells #[.int .u8 (x.k : Int), .int .i64 x.n, txt x.t] 46)) (.int .u8 (y.k : Int)) (.int .i64 y.n) (txt y.t) 46
    rw [World.size_alloc] at y0 y1 y2
    have x0' := cell_al x0 (cell_lt x0) (.cells #[.int .u8 (y.k : Int), .int .i64 y.n, txt y.t] 46)
    have x1' := cell_al x1 (cell_lt x1) (.cells #[.int .u8 (y.k : Int), .int .i64 y.n, txt y.t] 46)
    have x2' := cell_al x2 (cell_lt x2) (.cells #[.int .u8 (y.k : Int), .int .i64 y.n, txt y.t] 46)
    have b5 := hb05.size
    have own4 : we.ownsRow w.heap.size 46 3 (.slice A4 k c4) k (vcells LO) := by rw [hwe]; exact (own45.alloc _).alloc _
    have own5 : we.ownsRow w.heap.size 46 3 (.slice A5 k c5) k (vcells HI) := by rw [hwe]; exact (own55.alloc _).alloc _
    have hbe : Below w.heap.size w we := by rw [hwe]; exact (hb05.alloc b5 _).alloc (by simp; omega) _
    have n4 : ∀ g, (Value.slice A4 k c4).ownBlock = some g → g < w5.heap.size := fun g h => (own45.lt g h).2
    have hze : w5.heap.size + 2 ≤ we.heap.size := by rw [hwe]; simp
    obtain ⟨P, hP⟩ : ∃ P, P = w5.heap.size := ⟨_, rfl⟩
    rw [← hwe] at x0' x1' x2' y0 y1 y2 ⊢
    rw [← hP] at x0' x1' x2' y0 y1 y2 n4 hze ⊢
    have G : ∀ w6, (we.alloc (.cells #[.int .u8 (x.k : Int), .int .i64 x.n, txt x.t] 46)).grownBy w6 (Value.slice A4 k c4).ownBlock → w6.cell? ⟨P + 1, 0, none⟩ = some (.int .u8 (y.k : Int)) ∧ w6.cell? ⟨P + 1, 1, none⟩ = some (.int .i64 y.n) ∧ w6.cell? ⟨P + 1, 2, none⟩ = some (txt y.t) := fun w6 hg => by
      have hb := hg.block (P + 1) (by simp; omega) (fun e => by have := n4 (P + 1) e.symm; omega)
      exact ⟨(World.cell?_of_block (w := we.alloc (.cells #[.int .u8 (x.k : Int), .int .i64 x.n, txt x.t] 46)) hb).trans (cell_al y0 (cell_lt y0) _), (World.cell?_of_block (w := we.alloc (.cells #[.int .u8 (x.k : Int), .int .i64 x.n, txt x.t] 46)) hb).trans (cell_al y1 (cell_lt y1) _), (World.cell?_of_block (w := we.alloc (.cells #[.int .u8 (x.k : Int), .int .i64 x.n, txt x.t] 46)) hb).trans (cell_al y2 (cell_lt y2) _)⟩
    have hbes := hbe.size
    have ax := own4.alloc (.cells #[.int .u8 (x.k : Int), .int .i64 x.n, txt x.t] 46)
    have a5 := own5.alloc (.cells #[.int .u8 (x.k : Int), .int .i64 x.n, txt x.t] 46)
    have HA5 := Lib.hid a5
    have HG := Lib.hid G
    have hbx : Below w.heap.size w (we.alloc (.cells #[.int .u8 (x.k : Int), .int .i64 x.n, txt x.t] 46)) := hbe.alloc hbes _
    clear hwe hP own4 own5 own45 own55 hb05 n4 G x0 x1 x2 y0 y1 y2 a5
    go_wp2_with (first
      | (at_builtin; refine wpList_app HEL rfl _ _ rfl ax rfl rfl (by exact cv_three x rfl) rfl (cv_one _) (by unfold maxLen; omega) (by have : (k + 1) * by_ ≤ 1000001 * 64 := Nat.mul_le_mul (by omega) hby; omega) (by simp; omega) ?_; intro v6 w6 hown6 hg6 hor6; obtain ⟨y0w, y1w, y2w⟩ := HG.out w6 hg6; have ap6 := (hap.symm.app HA5.out hor6 (Nat.le_refl _)).symm; have o56 := own_grown HA5.out hg6 (Ap.ne hap.symm); have hb6 := hbx.trans (own_below ax hg6 (by simp; omega)); have hb6s := hb6.size; have a57 := o56.alloc (.cells #[.int .u8 (y.k : Int), .int .i64 y.n, txt y.t] 46); have o67 := hown6.alloc (.cells #[.int .u8 (y.k : Int), .int .i64 y.n, txt y.t] 46); clear ax hg6 hor6 o56 hbx)
      | (at_builtin; refine wpList_app HEL rfl _ _ rfl a57 rfl rfl (by exact cv_three y rfl) rfl (cv_one _) (by unfold maxLen; omega) (by have : (k + 1) * by_ ≤ 1000001 * 64 := Nat.mul_le_mul (by omega) hby; omega) (by simp; omega) ?_; intro v8 w8 hown8 hg8 hor8))
    have hb8 : Below w.heap.size w w8 := (hb6.alloc hb6s _).trans (own_below a57 hg8 (by simp; omega))
    have o68 := own_grown o67 hg8 (Ap.ne ap6)
    have ap8 := ap6.app o67 hor8 (Nat.le_refl _)
    rw [← vcells_snoc] at o68 hown8
    go_roundw
    case rel => exact ⟨k + 1, by omega, by go_num, by rw [E1.out]; exact o68, by rw [E2.out]; exact hown8, ap8, hb8⟩
    case measure => simp [intOf]; omega
end Go.Proofs.Ythkpgjcnnfdibaa

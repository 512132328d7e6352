/- The walk of spans.Of (layer 10): it answers the one list in form. For at most 10^9 spans. -/
import Derived.Test.YtiohdacbnigpkaaSet5
import Derived.Test.YtiohdacbnigpkaaSrt
namespace Go.Proofs.Ytiohdacbnigpkaa
open Go.RowKit Go.Maps
set_option linter.unusedVariables false
set_option linter.unusedSimpArgs false

/-- the one list in form of a list's set -/
noncomputable def ofL (l : List S2) : List S2 := nf (hasB l)
theorem ofL_form (l : List S2) : formL (ofL l) := nf_form (listed_of l)
theorem ofL_has (l : List S2) (t : Int) : hasB (ofL l) t = hasB l t := nf_has (listed_of l) t
theorem mgF_perm {l l' : List S2} (hp : l'.Perm (full l)) (hs : sortedL l') : mgF [] l' = ofL l := by
  have h : ∀ s, s ∈ l' ↔ s ∈ full l := fun s => hp.mem_iff
  have e : hasB l = hasB l' := funext fun t => by rw [hasB_mem h t, hasB_full]
  unfold ofL
  rw [e]
  refine (mgF_set (fun s hm => ?_) hs).symm
  have := (List.mem_filter.1 ((h s).1 hm)).2
  simpa using this
theorem mgStep_len (a : List S2) (s : S2) : (mgStep a s).length ≤ a.length + 1 := by
  rcases last_cases a with rfl | ⟨b, u, rfl⟩
  · rw [mgStep_nil]; simp
  · rw [mgStep_last]; split <;> simp
theorem mgF_snoc {l : List S2} {k : Nat} {s : S2} (h : l[k]? = some s) : mgF [] (l.take (k + 1)) = mgStep (mgF [] (l.take k)) s := by
  unfold mgF
  rw [List.take_add_one, h, List.foldl_append]; rfl
theorem mgF_len (l : List S2) : ∀ a : List S2, (mgF a l).length ≤ a.length + l.length := by
  induction l with
  | nil => intro a; simp [mgF]
  | cons s l ih =>
    intro a
    have h1 := ih (mgStep a s)
    have h2 := mgStep_len a s
    show (mgF (mgStep a s) l).length ≤ _
    simp only [List.length_cons]
    omega
theorem ofL_len (l : List S2) : (ofL l).length ≤ l.length := by
  have hp : (isort (full l)).Perm (full l) := by
    have : ∀ r : List S2, (isort r).Perm r := by
      intro r
      induction r with
      | nil => exact List.Perm.refl _
      | cons u r ih =>
        have h : ∀ (s : S2) (r : List S2), (insS s r).Perm (s :: r) := by
          intro s r
          induction r with
          | nil => exact List.Perm.refl _
          | cons v r ih =>
            unfold insS
            split
            · exact List.Perm.refl _
            · exact (List.Perm.cons v ih).trans (List.Perm.swap ..)
        exact (h u _).trans (List.Perm.cons u ih)
    exact this _
  rw [← mgF_perm hp (isort_sorted _)]
  have h1 := mgF_len (isort (full l)) []
  have h2 := hp.length_eq
  have h3 : (full l).length ≤ l.length := List.length_filter_le _ _
  simp at h1
  omega
/-- the shape of what is owned and not empty -/
theorem own_some {w : World} {base n sz : Nat} {e : TypeId} {v : Value} {xs : List Value} (h : w.ownsRow base e sz v n xs) (hn : 0 < n) : ∃ g cap, v = .slice (some ⟨g, 0, none⟩) n cap ∧ base ≤ g ∧ g < w.heap.size := by
  rcases h.2 with ⟨_, hz⟩ | ⟨g, cap, cur, hv, hb, hh, _⟩
  · omega
  · exact ⟨g, cap, hv, hb, (Array.getElem?_eq_some_iff.1 hh).1⟩

set_option maxHeartbeats 4000000 in
set_option maxRecDepth 100000 in
theorem of_any (B : Nat) (A : Option Addr) (c : Nat) (l : List S2) (w : World) (hr : Rd w B A (scells l)) (hB : B ≤ w.heap.size) (hl : l.length ≤ 1000000000) :
    Calls Try.prog 22 #[.slice A l.length c] w (RetSs w (ofL l)) := by
  obtain ⟨by_, HEL, hby⟩ := El_span
  have HC := Lib.hid (clone_any B A c l w hr hB hl)
  clear hr
  go_enter Try.func22, Try.ntmps22
  go_wp2_with fail
  refine HC.out.mono ?_; rintro e w1 ⟨A1, c1, rfl, hown1, hb1⟩
  have HD := Lib.hid (delete_any w.heap.size A1 c1 l w1 hown1 hb1.size hl)
  clear hown1
  go_wp2_with fail
  refine HD.out.mono ?_; rintro e w2 ⟨A2, c2, rfl, hown2, hb2⟩
  have hb02 := hb1.trans hb2
  have hfl := full_le l
  have HS := Lib.hid (sort_any w.heap.size A2 c2 (full l) w2 hown2 hb02.size (by omega))
  clear hown2 hb2 hb1
  go_wp2_with fail
  refine HS.out.mono ?_; rintro e w3 ⟨rfl, l', hp, hs, hown3, hb3⟩
  have hb03 := hb02.trans hb3
  have hlen := hp.length_eq
  have HOF := Lib.hid (mgF_perm hp hs)
  obtain ⟨n, hn⟩ : ∃ n, n = (full l).length := ⟨_, rfl⟩
  rw [← hn] at hown3 hlen hfl ⊢
  have hrd := rd_own hown3
  have hn9 : n ≤ 1000000000 := by omega
  clear HC HD HS hp hs hown3 hb02 hb3 hn hfl
  go_wp2_with fail
  go_loopw [4, 15] (fun v4 v15 wr => ∃ k : Nat, k ≤ n ∧ v15 = .int .i64 k ∧ wr.ownsRow w3.heap.size 27 2 v4 (mgF [] (l'.take k)).length (scells (mgF [] (l'.take k))) ∧ Below w3.heap.size w3 wr) (fun _ v15 _ => n - (intOf v15).toNat)
  case atStart => exact ⟨0, by omega, rfl, World.ownsRow_nil _ _ _ _, Below.refl _ _⟩
  case round =>
    obtain ⟨k, hk, rfl, hown, hbel⟩ := hrel
    by_cases hlt : k < n
    case neg =>
      have hkk : k = n := by omega
      have hge : (n : Int) ≤ (k : Int) := by omega
      rw [hkk, ← hlen, List.take_length, HOF.out] at hown
      have hown9 := own_lower hown hb03.size
      have hb9 := hb03.trans (hbel.mono hb03.size)
      clear hkk hown hbel
      go_wp2_with fail
      go_ret
      exact retSs_of hown9 hb9
    obtain ⟨s, hs⟩ : ∃ s, l'[k]? = some s := ⟨_, List.getElem?_eq_getElem (by omega)⟩
    obtain ⟨gb, go, rfl, hgb, q0, q1⟩ := rd_span hrd hs
    have r0 := (hbel.cell (p := ⟨gb, go + k * 2, none⟩) (by show gb < _; omega)).trans q0
    have r1 := (hbel.cell (p := ⟨gb, go + k * 2 + 1, none⟩) (by show gb < _; omega)).trans q1
    have hkI : (k : Int) < (n : Int) := by omega
    have HNX := Lib.hid (mgF_snoc hs)
    have hXl := mgF_len (l'.take k) []
    rw [List.length_take, List.length_nil] at hXl
    obtain ⟨X, hX⟩ : ∃ X, X = mgF [] (l'.take k) := ⟨_, rfl⟩
    rw [← hX] at hown HNX hXl
    have hbs := hbel.size
    clear q0 q1 hs hX
    obtain ⟨A4, c4, rfl, hc4⟩ := own_form hown
    go_wp2_with fail
    obtain ⟨wd, hwd⟩ : ∃ wd, wd = (wr.alloc (.cells #[.int .i64 s.1, .int .i64 s.2] 27)) := ⟨_, rfl⟩
    have hownD : wd.ownsRow w3.heap.size 27 2 (.slice A4 X.length c4) X.length (scells X) := by rw [hwd]; exact hown.alloc _
    have hbD : Below w3.heap.size w3 wd := by rw [hwd]; exact hbel.alloc hbs _
    have hzD : wr.heap.size < wd.heap.size := by rw [hwd]; simp
    obtain ⟨d0, d1⟩ := sc_block wr (.int .i64 s.1) (.int .i64 s.2) 27
    rw [← hwd] at d0 d1
    rw [← hwd]
    have hwrb : ∀ g, (Value.slice A4 X.length c4).ownBlock = some g → g < wr.heap.size := fun g h => (hown.lt g h).2
    clear hown hbel hwd r0 r1
    have F1 : ∀ w', Below wd.heap.size wd w' → w'.cell? ⟨wr.heap.size, 0, none⟩ = some (.int .i64 s.1) ∧ w'.cell? ⟨wr.heap.size, 1, none⟩ = some (.int .i64 s.2) := fun w' h => ⟨cell_be d0 h (by show wr.heap.size < _; omega), cell_be d1 h (by show wr.heap.size < _; omega)⟩
    rcases last_cases X with rfl | ⟨b, u, rfl⟩
    · simp only [List.length_nil] at hownD hXl ⊢
      have hnx : mgF [] (l'.take (k + 1)) = [s] := HNX.out
      have HNX2 := Lib.hid hnx
      clear hnx HNX
      refine ah_start 13 (fun w' => Below wd.heap.size wd w') rfl (by kernel_rfl) (Below.refl _ _).drew ?_ ; intro hS
      (refine mv_val 0 (v := ?_) rfl (by kernel_rfl) (by kernel_rfl) (by kernel_rfl) (fun _ _ _ h => h) (by rfl) hS ?_ ?_; rotate_left; (focus (intro w hSw; (try dsimp only at hSw); (have f1 := (F1 w hSw).1); go_simp; first | done | with_reducible rfl)); simp only [Act.put, List.setIfInBounds_toArray, List.set_cons_zero, List.set_cons_succ])
      (refine mv_val 1 (v := ?_) rfl (by kernel_rfl) (by kernel_rfl) (by kernel_rfl) (fun _ _ _ h => h) (by rfl) hS ?_ ?_; rotate_left; (focus (intro w hSw; (try dsimp only at hSw); (have f1 := (F1 w hSw).1); go_simp; first | done | with_reducible rfl)); simp only [Act.put, List.setIfInBounds_toArray, List.set_cons_zero, List.set_cons_succ])
      (refine mv_val 2 (v := ?_) rfl (by kernel_rfl) (by kernel_rfl) (by kernel_rfl) (fun _ _ _ h => h) (by rfl) hS ?_ ?_; rotate_left; (focus (intro w hSw; (try dsimp only at hSw); (have f1 := (F1 w hSw).1); go_simp; first | done | with_reducible rfl)); simp only [Act.put, List.setIfInBounds_toArray, List.set_cons_zero, List.set_cons_succ])
      (refine mv_skip 3 rfl (by kernel_rfl) (by kernel_rfl) (by kernel_rfl) (fun _ _ _ h => h) (by rfl) hS ?_; simp only [Act.put, List.setIfInBounds_toArray, List.set_cons_zero, List.set_cons_succ])
      (refine mv_skip 4 rfl (by kernel_rfl) (by kernel_rfl) (by kernel_rfl) (fun _ _ _ h => h) (by rfl) hS ?_; simp only [Act.put, List.setIfInBounds_toArray, List.set_cons_zero, List.set_cons_succ])
      (refine mv_skip 5 rfl (by kernel_rfl) (by kernel_rfl) (by kernel_rfl) (fun _ _ _ h => h) (by rfl) hS ?_; simp only [Act.put, List.setIfInBounds_toArray, List.set_cons_zero, List.set_cons_succ])
      (refine mv_skip 6 rfl (by kernel_rfl) (by kernel_rfl) (by kernel_rfl) (fun _ _ _ h => h) (by rfl) hS ?_; simp only [Act.put, List.setIfInBounds_toArray, List.set_cons_zero, List.set_cons_succ])
      (refine mv_skip 7 rfl (by kernel_rfl) (by kernel_rfl) (by kernel_rfl) (fun _ _ _ h => h) (by rfl) hS ?_; simp only [Act.put, List.setIfInBounds_toArray, List.set_cons_zero, List.set_cons_succ])
      (refine mv_skip 8 rfl (by kernel_rfl) (by kernel_rfl) (by kernel_rfl) (fun _ _ _ h => h) (by rfl) hS ?_; simp only [Act.put, List.setIfInBounds_toArray, List.set_cons_zero, List.set_cons_succ])
      (refine mv_skip 9 rfl (by kernel_rfl) (by kernel_rfl) (by kernel_rfl) (fun _ _ _ h => h) (by rfl) hS ?_; simp only [Act.put, List.setIfInBounds_toArray, List.set_cons_zero, List.set_cons_succ])
      (refine mv_skip 10 rfl (by kernel_rfl) (by kernel_rfl) (by kernel_rfl) (fun _ _ _ h => h) (by rfl) hS ?_; simp only [Act.put, List.setIfInBounds_toArray, List.set_cons_zero, List.set_cons_succ])
      (refine mv_skip 11 rfl (by kernel_rfl) (by kernel_rfl) (by kernel_rfl) (fun _ _ _ h => h) (by rfl) hS ?_; simp only [Act.put, List.setIfInBounds_toArray, List.set_cons_zero, List.set_cons_succ])
      (refine mv_val 12 (v := ?_) rfl (by kernel_rfl) (by kernel_rfl) (by kernel_rfl) (fun _ _ _ h => h) (by rfl) hS ?_ ?_; rotate_left; (focus (intro w hSw; (try dsimp only at hSw); (have f1 := (F1 w hSw).1); go_simp; first | done | with_reducible rfl)); simp only [Act.put, List.setIfInBounds_toArray, List.set_cons_zero, List.set_cons_succ])
      refine wpAnyH_done (by kernel_rfl) ?_ _
      obtain ⟨we, hwe⟩ : ∃ we, we = wd.drew := ⟨_, rfl⟩
      have hownE : we.ownsRow w3.heap.size 27 2 (.slice A4 0 c4) 0 (scells []) := by rw [hwe]; exact hownD
      have hbE : Below w3.heap.size w3 we := by rw [hwe]; exact hbD.drew
      have hzE := hbE.size
      have e0 : we.cell? ⟨wr.heap.size, 0, none⟩ = some (.int .i64 s.1) := by rw [hwe]; exact d0
      have e1 : we.cell? ⟨wr.heap.size, 1, none⟩ = some (.int .i64 s.2) := by rw [hwe]; exact d1
      rw [← hwe]
      clear hwe hownD hbD d0 d1 F1 hS
      go_wp2_with (at_builtin; refine wpList_app HEL rfl _ _ rfl (hownE.alloc _) rfl rfl (sc_two s rfl) rfl (sc_one _) (by unfold maxLen; omega) (by have : (0 + 1) * by_ ≤ 1 * 64 := Nat.mul_le_mul (by omega) hby; omega) (by simp; omega) ?_; intro v5 w5 hown5 hg5 _)
      have hb5 : Below w3.heap.size w3 w5 := (hbE.alloc hzE _).trans (own_below (hownE.alloc _) hg5 (by simp; omega))
      go_roundw
      case rel => exact ⟨k + 1, by omega, by go_num, by rw [HNX2.out]; exact hown5, hb5⟩
      case measure => simp [intOf]; omega
    · have hbl : (b ++ [u]).length = b.length + 1 := by simp
      rw [hbl] at hownD hXl ⊢
      obtain ⟨j, hj⟩ : ∃ j, j = b.length := ⟨_, rfl⟩
      rw [← hj] at hownD hXl ⊢
      obtain ⟨g, cap, hA, hg1, hg2⟩ := own_some hownD (by omega)
      simp only [Value.slice.injEq, true_and] at hA
      obtain ⟨rfl, rfl⟩ := hA
      have hgw : g < wr.heap.size := hwrb g rfl
      clear hwrb
      have hbu : (b ++ [u])[j]? = some u := by rw [hj]; simp
      obtain ⟨p0, p1⟩ := scells_at _ _ _ hbu
      have hget := (scells_length (b ++ [u]))
      have c1 := hownD.cellAt (j * 2 + 1) (by omega)
      rw [p1] at c1
      have G1 : ∀ w', Below wd.heap.size wd w' → w'.cell? ⟨g, j * 2 + 1, none⟩ = some (.int .i64 u.2) := fun w' h => cell_be c1 h hg2
      have hwj : IntKind.i64.wrap (j : Int) = (j : Int) := by rw [IntKind.wrap_i64]; omega
      have hjI : (0 : Int) < (j : Int) + 1 := by omega
      have hjJ : (j : Int) < (j : Int) + 1 := by omega
      have HNX2 := Lib.hid ((HNX.out).trans (mgStep_last b u s))
      have HBU := Lib.hid hbu
      have HJ := Lib.hid hj
      clear HNX p0 p1 hget hbu hj hbl
      refine ah_start 13 (fun w' => Below wd.heap.size wd w') rfl (by kernel_rfl) (Below.refl _ _).drew ?_ ; intro hS
      (refine mv_val 0 (v := ?_) rfl (by kernel_rfl) (by kernel_rfl) (by kernel_rfl) (fun _ _ _ h => h) (by rfl) hS ?_ ?_; rotate_left; (focus (intro w hSw; (try dsimp only at hSw); (have f1 := (F1 w hSw).1; have f2 := G1 w hSw; have f3 := hwj; have f4 := hjI; have f5 := hjJ); go_simp; first | done | with_reducible rfl)); simp only [Act.put, List.setIfInBounds_toArray, List.set_cons_zero, List.set_cons_succ])
      (refine mv_val 1 (v := ?_) rfl (by kernel_rfl) (by kernel_rfl) (by kernel_rfl) (fun _ _ _ h => h) (by rfl) hS ?_ ?_; rotate_left; (focus (intro w hSw; (try dsimp only at hSw); (have f1 := (F1 w hSw).1; have f2 := G1 w hSw; have f3 := hwj; have f4 := hjI; have f5 := hjJ); go_simp; first | done | with_reducible rfl)); simp only [Act.put, List.setIfInBounds_toArray, List.set_cons_zero, List.set_cons_succ])
      (refine mv_val 2 (v := ?_) rfl (by kernel_rfl) (by kernel_rfl) (by kernel_rfl) (fun _ _ _ h => h) (by rfl) hS ?_ ?_; rotate_left; (focus (intro w hSw; (try dsimp only at hSw); (have f1 := (F1 w hSw).1; have f2 := G1 w hSw; have f3 := hwj; have f4 := hjI; have f5 := hjJ); go_simp; first | done | with_reducible rfl)); simp only [Act.put, List.setIfInBounds_toArray, List.set_cons_zero, List.set_cons_succ])
      (refine mv_val 3 (v := ?_) rfl (by kernel_rfl) (by kernel_rfl) (by kernel_rfl) (fun _ _ _ h => h) (by rfl) hS ?_ ?_; rotate_left; (focus (intro w hSw; (try dsimp only at hSw); (have f1 := (F1 w hSw).1; have f2 := G1 w hSw; have f3 := hwj; have f4 := hjI; have f5 := hjJ); go_simp; first | done | with_reducible rfl)); simp only [Act.put, List.setIfInBounds_toArray, List.set_cons_zero, List.set_cons_succ])
      (refine mv_val 4 (v := ?_) rfl (by kernel_rfl) (by kernel_rfl) (by kernel_rfl) (fun _ _ _ h => h) (by rfl) hS ?_ ?_; rotate_left; (focus (intro w hSw; (try dsimp only at hSw); (have f1 := (F1 w hSw).1; have f2 := G1 w hSw; have f3 := hwj; have f4 := hjI; have f5 := hjJ); go_simp; first | done | with_reducible rfl)); simp only [Act.put, List.setIfInBounds_toArray, List.set_cons_zero, List.set_cons_succ])
      (refine mv_val 5 (v := ?_) rfl (by kernel_rfl) (by kernel_rfl) (by kernel_rfl) (fun _ _ _ h => h) (by rfl) hS ?_ ?_; rotate_left; (focus (intro w hSw; (try dsimp only at hSw); (have f1 := (F1 w hSw).1; have f2 := G1 w hSw; have f3 := hwj; have f4 := hjI; have f5 := hjJ); go_simp; first | done | with_reducible rfl)); simp only [Act.put, List.setIfInBounds_toArray, List.set_cons_zero, List.set_cons_succ])
      (refine mv_val 6 (v := ?_) rfl (by kernel_rfl) (by kernel_rfl) (by kernel_rfl) (fun _ _ _ h => h) (by rfl) hS ?_ ?_; rotate_left; (focus (intro w hSw; (try dsimp only at hSw); (have f1 := (F1 w hSw).1; have f2 := G1 w hSw; have f3 := hwj; have f4 := hjI; have f5 := hjJ); go_simp; first | done | with_reducible rfl)); simp only [Act.put, List.setIfInBounds_toArray, List.set_cons_zero, List.set_cons_succ])
      (refine mv_val 7 (v := ?_) rfl (by kernel_rfl) (by kernel_rfl) (by kernel_rfl) (fun _ _ _ h => h) (by rfl) hS ?_ ?_; rotate_left; (focus (intro w hSw; (try dsimp only at hSw); (have f1 := (F1 w hSw).1; have f2 := G1 w hSw; have f3 := hwj; have f4 := hjI; have f5 := hjJ); go_simp; first | done | with_reducible rfl)); simp only [Act.put, List.setIfInBounds_toArray, List.set_cons_zero, List.set_cons_succ])
      (refine mv_val 8 (v := ?_) rfl (by kernel_rfl) (by kernel_rfl) (by kernel_rfl) (fun _ _ _ h => h) (by rfl) hS ?_ ?_; rotate_left; (focus (intro w hSw; (try dsimp only at hSw); (have f1 := (F1 w hSw).1; have f2 := G1 w hSw; have f3 := hwj; have f4 := hjI; have f5 := hjJ); go_simp; first | done | with_reducible rfl)); simp only [Act.put, List.setIfInBounds_toArray, List.set_cons_zero, List.set_cons_succ])
      (refine mv_val 9 (v := ?_) rfl (by kernel_rfl) (by kernel_rfl) (by kernel_rfl) (fun _ _ _ h => h) (by rfl) hS ?_ ?_; rotate_left; (focus (intro w hSw; (try dsimp only at hSw); (have f1 := (F1 w hSw).1; have f2 := G1 w hSw; have f3 := hwj; have f4 := hjI; have f5 := hjJ); go_simp; first | done | with_reducible rfl)); simp only [Act.put, List.setIfInBounds_toArray, List.set_cons_zero, List.set_cons_succ])
      (refine mv_val 10 (v := ?_) rfl (by kernel_rfl) (by kernel_rfl) (by kernel_rfl) (fun _ _ _ h => h) (by rfl) hS ?_ ?_; rotate_left; (focus (intro w hSw; (try dsimp only at hSw); (have f1 := (F1 w hSw).1; have f2 := G1 w hSw; have f3 := hwj; have f4 := hjI; have f5 := hjJ); go_simp; first | done | with_reducible rfl)); simp only [Act.put, List.setIfInBounds_toArray, List.set_cons_zero, List.set_cons_succ])
      (refine mv_val 11 (v := ?_) rfl (by kernel_rfl) (by kernel_rfl) (by kernel_rfl) (fun _ _ _ h => h) (by rfl) hS ?_ ?_; rotate_left; (focus (intro w hSw; (try dsimp only at hSw); (have f1 := (F1 w hSw).1; have f2 := G1 w hSw; have f3 := hwj; have f4 := hjI; have f5 := hjJ); go_simp; first | done | with_reducible rfl)); simp only [Act.put, List.setIfInBounds_toArray, List.set_cons_zero, List.set_cons_succ])
      (refine mv_val 12 (v := ?_) rfl (by kernel_rfl) (by kernel_rfl) (by kernel_rfl) (fun _ _ _ h => h) (by rfl) hS ?_ ?_; rotate_left; (focus (intro w hSw; (try dsimp only at hSw); (have f1 := (F1 w hSw).1; have f2 := G1 w hSw; have f3 := hwj; have f4 := hjI; have f5 := hjJ); go_simp; first | done | with_reducible rfl)); simp only [Act.put, List.setIfInBounds_toArray, List.set_cons_zero, List.set_cons_succ])
      refine wpAnyH_done (by kernel_rfl) ?_ _
      obtain ⟨we, hwe⟩ : ∃ we, we = wd.drew := ⟨_, rfl⟩
      have hownE : we.ownsRow w3.heap.size 27 2 (.slice (some ⟨g, 0, none⟩) (j + 1) c4) (j + 1) (scells (b ++ [u])) := by rw [hwe]; exact hownD
      have hbE : Below w3.heap.size w3 we := by rw [hwe]; exact hbD.drew
      have hzE := hbE.size
      have hzW : wr.heap.size < we.heap.size := by rw [hwe]; exact hzD
      have e0 : we.cell? ⟨wr.heap.size, 0, none⟩ = some (.int .i64 s.1) := by rw [hwe]; exact d0
      have e1 : we.cell? ⟨wr.heap.size, 1, none⟩ = some (.int .i64 s.2) := by rw [hwe]; exact d1
      have e2 : we.cell? ⟨g, j * 2 + 1, none⟩ = some (.int .i64 u.2) := by rw [hwe]; exact c1
      rw [← hwe]
      clear hwe hownD hbD d0 d1 F1 G1 hS c1
      by_cases hle : s.1 ≤ u.2
      · have hnx := HNX2.out
        rw [if_pos hle] at hnx
        have HNX3 := Lib.hid hnx
        have hfr := hownE.frozenAt (j * 2 + 1)
        have hset := Lib.hid (own_setTo hownE HBU.out (max u.2 s.2))
        clear hnx HNX2
        go_wp2_with fail
        refine ah_start 15 (fun w' => w'.cell? ⟨wr.heap.size, 1, none⟩ = some (.int .i64 s.2)) rfl (by kernel_rfl) e1 ?_ ; intro hS
        (refine mv_val 0 (v := ?_) rfl (by kernel_rfl) (by kernel_rfl) (by kernel_rfl) (fun _ _ _ h => h) (by rfl) hS ?_ ?_; rotate_left; (focus (intro w hSw; (try dsimp only at hSw); (have f1 := hSw; have f3 := hwj; have f4 := hjI; have f5 := hjJ); go_simp; first | done | with_reducible rfl)); simp only [Act.put, List.setIfInBounds_toArray, List.set_cons_zero, List.set_cons_succ])
        (refine mv_val 1 (v := ?_) rfl (by kernel_rfl) (by kernel_rfl) (by kernel_rfl) (fun _ _ _ h => h) (by rfl) hS ?_ ?_; rotate_left; (focus (intro w hSw; (try dsimp only at hSw); (have f1 := hSw; have f3 := hwj; have f4 := hjI; have f5 := hjJ); go_simp; first | done | with_reducible rfl)); simp only [Act.put, List.setIfInBounds_toArray, List.set_cons_zero, List.set_cons_succ])
        (refine mv_val 2 (v := ?_) rfl (by kernel_rfl) (by kernel_rfl) (by kernel_rfl) (fun _ _ _ h => h) (by rfl) hS ?_ ?_; rotate_left; (focus (intro w hSw; (try dsimp only at hSw); (have f1 := hSw; have f3 := hwj; have f4 := hjI; have f5 := hjJ); go_simp; first | done | with_reducible rfl)); simp only [Act.put, List.setIfInBounds_toArray, List.set_cons_zero, List.set_cons_succ])
        (refine mv_val 3 (v := ?_) rfl (by kernel_rfl) (by kernel_rfl) (by kernel_rfl) (fun _ _ _ h => h) (by rfl) hS ?_ ?_; rotate_left; (focus (intro w hSw; (try dsimp only at hSw); (have f1 := hSw; have f3 := hwj; have f4 := hjI; have f5 := hjJ); go_simp; first | done | with_reducible rfl)); simp only [Act.put, List.setIfInBounds_toArray, List.set_cons_zero, List.set_cons_succ])
        (refine mv_val 4 (v := ?_) rfl (by kernel_rfl) (by kernel_rfl) (by kernel_rfl) (fun _ _ _ h => h) (by rfl) hS ?_ ?_; rotate_left; (focus (intro w hSw; (try dsimp only at hSw); (have f1 := hSw; have f3 := hwj; have f4 := hjI; have f5 := hjJ); go_simp; first | done | with_reducible rfl)); simp only [Act.put, List.setIfInBounds_toArray, List.set_cons_zero, List.set_cons_succ])
        (refine mv_val 5 (v := ?_) rfl (by kernel_rfl) (by kernel_rfl) (by kernel_rfl) (fun _ _ _ h => h) (by rfl) hS ?_ ?_; rotate_left; (focus (intro w hSw; (try dsimp only at hSw); (have f1 := hSw; have f3 := hwj; have f4 := hjI; have f5 := hjJ); go_simp; first | done | with_reducible rfl)); simp only [Act.put, List.setIfInBounds_toArray, List.set_cons_zero, List.set_cons_succ])
        (refine mv_val 6 (v := ?_) rfl (by kernel_rfl) (by kernel_rfl) (by kernel_rfl) (fun _ _ _ h => h) (by rfl) hS ?_ ?_; rotate_left; (focus (intro w hSw; (try dsimp only at hSw); (have f1 := hSw; have f3 := hwj; have f4 := hjI; have f5 := hjJ); go_simp; first | done | with_reducible rfl)); simp only [Act.put, List.setIfInBounds_toArray, List.set_cons_zero, List.set_cons_succ])
        (refine mv_val 7 (v := ?_) rfl (by kernel_rfl) (by kernel_rfl) (by kernel_rfl) (fun _ _ _ h => h) (by rfl) hS ?_ ?_; rotate_left; (focus (intro w hSw; (try dsimp only at hSw); (have f1 := hSw; have f3 := hwj; have f4 := hjI; have f5 := hjJ); go_simp; first | done | with_reducible rfl)); simp only [Act.put, List.setIfInBounds_toArray, List.set_cons_zero, List.set_cons_succ])
        (refine mv_val 9 (v := ?_) rfl (by kernel_rfl) (by kernel_rfl) (by kernel_rfl) (fun _ _ _ h => h) (by rfl) hS ?_ ?_; rotate_left; (focus (intro w hSw; (try dsimp only at hSw); (have f1 := hSw; have f3 := hwj; have f4 := hjI; have f5 := hjJ); go_simp; first | done | with_reducible rfl)); simp only [Act.put, List.setIfInBounds_toArray, List.set_cons_zero, List.set_cons_succ])
        (refine mv_val 10 (v := ?_) rfl (by kernel_rfl) (by kernel_rfl) (by kernel_rfl) (fun _ _ _ h => h) (by rfl) hS ?_ ?_; rotate_left; (focus (intro w hSw; (try dsimp only at hSw); (have f1 := hSw; have f3 := hwj; have f4 := hjI; have f5 := hjJ); go_simp; first | done | with_reducible rfl)); simp only [Act.put, List.setIfInBounds_toArray, List.set_cons_zero, List.set_cons_succ])
        refine mv_step 8 rfl (by kernel_rfl) (by rfl) (fun K hK => ?_)
        go_simp
        refine hK _ _ ?_ ?_ <;> clear hK K
        · exact e1
        try simp only [Act.put, List.setIfInBounds_toArray, List.set_cons_zero, List.set_cons_succ]
        (refine mv_val 11 (v := ?_) rfl (by kernel_rfl) (by kernel_rfl) (by kernel_rfl) (fun _ _ _ h => h) (by rfl) hS ?_ ?_; rotate_left; (focus (intro w hSw; (try dsimp only at hSw); (have f1 := hSw; have f3 := hwj; have f4 := hjI; have f5 := hjJ); go_simp; first | done | with_reducible rfl)); simp only [Act.put, List.setIfInBounds_toArray, List.set_cons_zero, List.set_cons_succ])
        (refine mv_val 12 (v := ?_) rfl (by kernel_rfl) (by kernel_rfl) (by kernel_rfl) (fun _ _ _ h => h) (by rfl) hS ?_ ?_; rotate_left; (focus (intro w hSw; (try dsimp only at hSw); (have f1 := hSw; have f3 := hwj; have f4 := hjI; have f5 := hjJ); go_simp; first | done | with_reducible rfl)); simp only [Act.put, List.setIfInBounds_toArray, List.set_cons_zero, List.set_cons_succ])
        (refine mv_val 13 (v := ?_) rfl (by kernel_rfl) (by kernel_rfl) (by kernel_rfl) (fun _ _ _ h => h) (by rfl) hS ?_ ?_; rotate_left; (focus (intro w hSw; (try dsimp only at hSw); (have f1 := hSw; have f3 := hwj; have f4 := hjI; have f5 := hjJ); go_simp; first | done | with_reducible rfl)); simp only [Act.put, List.setIfInBounds_toArray, List.set_cons_zero, List.set_cons_succ])
        refine mv_step 14 rfl (by kernel_rfl) (by rfl) (fun K hK => ?_)
        go_simp
        refine hK _ _ ?_ ?_ <;> clear hK K
        · have hne : wr.heap.size ≠ g := by omega
          have hb := Below.heap_setCell we ⟨g, j * 2 + 1, none⟩ (.int .i64 (max u.2 s.2)) wr.heap.size hne
          have hc := World.cell?_of_block (w := we) (w' := we.setCell ⟨g, j * 2 + 1, none⟩ (.int .i64 (max u.2 s.2))) (a := ⟨wr.heap.size, 1, none⟩) hb
          exact hc.trans e1
        try simp only [Act.put, List.setIfInBounds_toArray, List.set_cons_zero, List.set_cons_succ]
        refine wpAnyH_done (by kernel_rfl) ?_ _
        go_wp2_with fail
        go_roundw
        case rel => 
          refine ⟨k + 1, by omega, by go_num, ?_, (hbE.setCell (p := ⟨g, j * 2 + 1, none⟩) hg1 _).drew⟩
          have e : b ++ [(u.1, max u.2 s.2)] = (b ++ [u]).set j (u.1, max u.2 s.2) := by rw [HJ.out]; simp
          rw [HNX3.out, e, List.length_set, List.length_append, ← HJ.out]
          exact hset.out
        case measure => simp [intOf]; omega
      · have hnx := HNX2.out
        rw [if_neg hle] at hnx
        have HNX3 := Lib.hid hnx
        clear hnx HNX2
        go_wp2_with (at_builtin; refine wpList_app HEL rfl _ _ rfl (hownE.alloc _) rfl rfl (sc_two s rfl) rfl (sc_one _) (by unfold maxLen; omega) (by have : (j + 1 + 1) * by_ ≤ 1000000001 * 64 := Nat.mul_le_mul (by omega) hby; omega) (by simp; omega) ?_; intro v5 w5 hown5 hg5 _)
        have hb5 : Below w3.heap.size w3 w5 := (hbE.alloc hzE _).trans (own_below (hownE.alloc _) hg5 (by simp; omega))
        go_roundw
        case rel =>
          refine ⟨k + 1, by omega, by go_num, ?_, hb5⟩
          rw [HNX3.out, scells_append, List.length_append, List.length_append, ← HJ.out]
          exact hown5
        case measure => simp [intOf]; omega
end Go.Proofs.Ytiohdacbnigpkaa

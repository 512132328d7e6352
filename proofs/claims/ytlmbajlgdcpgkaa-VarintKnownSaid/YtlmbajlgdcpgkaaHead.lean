/- Three closed facts on the head of this seat's program, read off its first words alone (its many roots make the whole head too long for one reckoning). -/
import Derived.Test.YtlmbajlgdcpgkaaRows
import Derived.JoinedOf
import Derived.KernelRfl
namespace Go.Proofs.Ytlmbajlgdcpgkaa

/-- the sign between two words -/
abbrev blank : Char := Char.ofNat 32

theorem ws_cut : ∀ (k : Nat) (x : List Char), (x.take k).all (· != blank) = true → x[k]? = some blank → wordsSigns x = x.take k :: wordsSigns (x.drop (k + 1))
  | 0, c :: r, _, h => by
    simp at h; subst h
    simp only [List.take_zero, List.drop_succ_cons, List.drop_zero]
    rw [wordsSigns]
  | 0, [], _, h => by simp at h
  | k + 1, [], _, h => by simp at h
  | k + 1, c :: r, hn, h => by
    simp only [List.take_succ_cons, List.all_cons, Bool.and_eq_true] at hn
    have ih := ws_cut k r hn.2 (by simpa using h)
    have hc : c ≠ blank := by simpa using hn.1
    rw [wordsSigns]
    · rw [ih]; rfl
    · exact hc

/-- Over any list of signs. -/
theorem head_of (x : List Char) (a1 : (x.take 7).all (· != blank) = true) (a2 : x[7]? = some blank) (b1 : ((x.drop 8).take 64).all (· != blank) = true) (b2 : (x.drop 8)[64]? = some blank)
    (c1 : (((x.drop 8).drop 65).take 3).all (· != blank) = true) (c2 : ((x.drop 8).drop 65)[3]? = some blank)
    (e1 : x.take 7 = "harness".toList) (e2 : isSumSigns ((x.drop 8).take 64) = true) (e3 : ((x.drop 8).drop 65).take 3 = "cut".toList) :
    ∃ t, behindMainWord (wordsSigns x) = "cut".toList :: t := by
  have h1 := ws_cut 7 x a1 a2
  have h2 := ws_cut 64 (x.drop 8) b1 b2
  have h3 := ws_cut 3 ((x.drop 8).drop 65) c1 c2
  rw [h1, h2, h3, e1, e3]
  refine ⟨wordsSigns (List.drop (3 + 1) (List.drop 65 (List.drop 8 x))), ?_⟩
  unfold behindMainWord
  simp only [e2]
  rfl
theorem strip_ok (t : List (List Char)) : stripLifts liftWords ("cut".toList :: t) = ([], "cut".toList :: t) := by rfl
theorem mayEnter_of {P : Program} {t : List (List Char)} (h : behindMainWord (wordsSigns P.initOrder.toList) = "cut".toList :: t) (h1 : P.laysLater = false) (h2 : P.bearsReflect = false) (h3 : P.doorFits [] = true) : P.mayEnter = true := by
  unfold Program.mayEnter
  rw [h]
  simp only [strip_ok, h1, h2, h3]
  rfl
theorem lifts_of {P : Program} {t : List (List Char)} (h : behindMainWord (wordsSigns P.initOrder.toList) = "cut".toList :: t) : P.liftsFinal = false := by
  unfold Program.liftsFinal Program.headLifts
  rw [h]
  simp only [strip_ok]
  rfl
theorem make_of {P : Program} {t : List (List Char)} (h : behindMainWord (wordsSigns P.initOrder.toList) = "cut".toList :: t) : P.make = some .cut := by
  unfold Program.make
  rw [h]
  rfl

theorem head_list : ∃ L, Try.prog.initOrder = String.ofList L ∧ ((L.take 7).all (· != blank) = true ∧ L[7]? = some blank ∧ ((L.drop 8).take 64).all (· != blank) = true ∧ (L.drop 8)[64]? = some blank ∧
    (((L.drop 8).drop 65).take 3).all (· != blank) = true ∧ ((L.drop 8).drop 65)[3]? = some blank ∧ L.take 7 = "harness".toList ∧ isSumSigns ((L.drop 8).take 64) = true ∧ ((L.drop 8).drop 65).take 3 = "cut".toList) :=
  ⟨_, by rfl, by kernel_rfl, by kernel_rfl, by kernel_rfl, by kernel_rfl, by kernel_rfl, by kernel_rfl, by kernel_rfl, by kernel_rfl, by kernel_rfl⟩
theorem head_words : ∃ t, behindMainWord (wordsSigns Try.prog.initOrder.toList) = "cut".toList :: t := by
  obtain ⟨L, h, a1, a2, b1, b2, c1, c2, e1, e2, e3⟩ := head_list
  rw [h, String.toList_ofList]
  exact head_of L a1 a2 b1 b2 c1 c2 e1 e2 e3
theorem lays_ok : Try.prog.laysLater = false := by kernel_rfl
theorem refl_ok : Try.prog.bearsReflect = false := by kernel_rfl
theorem door_ok : Try.prog.doorFits [] = true := by kernel_rfl
theorem mayEnter_ok : Try.prog.mayEnter = true := by
  obtain ⟨t, h⟩ := head_words
  exact mayEnter_of h lays_ok refl_ok door_ok
theorem lifts_ok : Try.prog.liftsFinal = false := by
  obtain ⟨t, h⟩ := head_words
  exact lifts_of h
theorem make_ok : Try.prog.make = some .cut := by
  obtain ⟨t, h⟩ := head_words
  exact make_of h
end Go.Proofs.Ytlmbajlgdcpgkaa

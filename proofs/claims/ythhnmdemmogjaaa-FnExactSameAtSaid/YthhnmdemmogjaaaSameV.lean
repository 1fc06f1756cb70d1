/- Plain lemmas on what the printed functions answer: numbers and lists alone. -/
import Derived.Test.YthhnmdemmogjaaaPBx0
import Derived.Test.YthhnmdemmogjaaaPBx4
import Derived.Test.YthhnmdemmogjaaaPBx5
import Derived.Test.YthhnmdemmogjaaaPBx7
import Derived.Test.YthhnmdemmogjaaaPBx8
import Derived.Test.YthhnmdemmogjaaaSpecFinds
import Derived.Test.YthhnmdemmogjaaaImplFinds
import Derived.Test.YthhnmdemmogjaaaSpecAts
import Derived.Test.YthhnmdemmogjaaaImplAts
import Derived.Test.YthhnmdemmogjaaaGoodFacts
namespace Go.Proofs.Ythhnmdemmogjaaa.Pure
open Go.RowKit Go.Proofs.Ythhnmdemmogjaaa.PB Go.Proofs.YthhnmdemmogjaaaW.PrintWords Go.Proofs.YthhnmdemmogjaaaW.PrintLast
set_option linter.unusedVariables false
set_option linter.unusedSimpArgs false

theorem equalT_l0 (a b : List ByteArray) (hl : a.length = b.length) (hb : a.length ≤ 1048576) : ∀ (d i : Nat), i + d = a.length →
    Ev (fun k => slices_Equal_string_string.l0 k a b (a.length : Int) (i : Int)) (decide (a.drop i = b.drop i))
  | 0, i, h => Ev.stepc (fun k => by
      simp only [slices_Equal_string_string.l0]
      rw [if_neg (by omega), show a.drop i = [] from List.drop_eq_nil_of_le (by omega), show b.drop i = [] from List.drop_eq_nil_of_le (by omega)]
      simp)
  | d + 1, i, h => by
    rw [drop_rdT a i (by omega), drop_rdT b i (by omega)]
    by_cases e : rdOf ByteArray.empty a (i : Int) = rdOf ByteArray.empty b (i : Int)
    · refine Ev.step (f := fun k => slices_Equal_string_string.l0 k a b (a.length : Int) ((i + 1 : Nat) : Int)) (fun k => ?_) ?_
      · simp only [slices_Equal_string_string.l0]
        rw [if_pos (by omega), if_pos (by omega), if_pos (by omega), if_pos (by omega), if_pos ((text_eq _ _).2 e), wnat (by omega)]
      · have ih := equalT_l0 a b hl hb d (i + 1) (by omega)
        simpa [e] using ih
    · refine Ev.stepc (fun k => ?_)
      simp only [slices_Equal_string_string.l0]
      rw [if_pos (by omega), if_pos (by omega), if_pos (by omega), if_pos (by omega), if_neg (fun h => e ((text_eq _ _).1 h))]
      simp [e]
theorem equalT_ev (a b : List ByteArray) (hl : a.length = b.length) (hb : a.length ≤ 1048576) : Ev (fun k => slices_Equal_string_string.f k a b) (decide (a = b)) := by
  unfold slices_Equal_string_string.f
  have h1 : (a.length : Int) = (b.length : Int) := by omega
  simp only [if_pos h1]
  have h := equalT_l0 a b hl hb a.length 0 (by omega)
  simpa using h
theorem specSame_l0 (mark : Int) (a b : List S51) (ha : okL a) (hb : okL b) (ga : ∀ y ∈ a, goodL y) (gb : ∀ y ∈ b, goodL y) (i j : Nat) (hi : i < a.length) (hj : j < b.length) (fa : findV mark a 0 = (i : Int)) (fb : findV mark b 0 = (j : Int)) : ∀ (d n : Nat), n + d = 16 →
    Ev (fun k => spec_l15Same.l0 k mark (n : Int) a b) (decide ((atV (a.take (i + 1))).drop n = (atV (b.take (j + 1))).drop n))
  | 0, n, h => by
    rw [show (atV (a.take (i + 1))).drop n = [] from List.drop_eq_nil_of_le (by rw [atV_len]; omega), show (atV (b.take (j + 1))).drop n = [] from List.drop_eq_nil_of_le (by rw [atV_len]; omega)]
    refine Ev.stepc (fun k => ?_)
    simp only [spec_l15Same.l0]
    rw [if_neg (by omega)]
    simp
  | d + 1, n, h => by
    have ga' : ∀ y ∈ a.take (i + 1), goodL y := fun y hy => ga y (List.mem_of_mem_take hy)
    have gb' : ∀ y ∈ b.take (j + 1), goodL y := fun y hy => gb y (List.mem_of_mem_take hy)
    rw [drop_rdT (atV (a.take (i + 1))) n (by rw [atV_len]; omega), drop_rdT (atV (b.take (j + 1))) n (by rw [atV_len]; omega), atV_rd _ ga' n (by omega), atV_rd _ gb' n (by omega)]
    have h1 := specFind_ev mark a ha.1
    have h2 := specFind_ev mark b hb.1
    rw [fa] at h1
    rw [fb] at h2
    have h3 := specAt_ev (n : Int) a ha.1 ga i hi
    have h4 := specAt_ev (n : Int) b hb.1 gb j hj
    refine Ev.step (f := fun k => (spec_l7Find.f k a mark).bind fun t247 => ((spec_l7At.f k a t247 (n : Int)).bind fun t248 => ((spec_l7Find.f k b mark).bind fun t249 => ((spec_l7At.f k b t249 (n : Int)).bind fun t250 => (if t248.toList = t250.toList then (spec_l15Same.l0 k mark ((n + 1 : Nat) : Int) a b) else (some false)))))) (fun k => ?_) (Ev.bind h1 (Ev.bind h3 (Ev.bind h2 (Ev.bind h4 ?_))))
    · simp only [spec_l15Same.l0]
      rw [if_pos (by omega), wnat (by omega)]
    · by_cases e : sAll (n : Int) (⟨#[0, 0]⟩ : ByteArray) (a.take (i + 1)) = sAll (n : Int) (⟨#[0, 0]⟩ : ByteArray) (b.take (j + 1))
      · simp only [if_pos ((text_eq _ _).2 e)]
        have ih := specSame_l0 mark a b ha hb ga gb i j hi hj fa fb d (n + 1) (by omega)
        simpa [e] using ih
      · have e2 : ¬ (sAll (n : Int) (⟨#[0, 0]⟩ : ByteArray) (a.take (i + 1))).toList = (sAll (n : Int) (⟨#[0, 0]⟩ : ByteArray) (b.take (j + 1))).toList := fun h => e ((text_eq _ _).1 h)
        simp only [if_neg e2]
        simpa [e] using Ev.now false
/-- whether two places have all blocks alike at a mark -/
def sameV (mark : Int) (a b : List S51) : Bool × Bool := if ((decide (0 ≤ findV mark a 0) && goodB a) && (decide (0 ≤ findV mark b 0) && goodB b)) = true then (decide (atV (a.take ((findV mark a 0).toNat + 1)) = atV (b.take ((findV mark b 0).toNat + 1))), true) else (false, false)
theorem implSame_ev (mark : Int) (a b : List S51) (ha : okL a) (hb : okL b) : Ev (fun k => impl_SameAt.f k a b mark) (sameV mark a b) := by
  unfold impl_SameAt.f sameV
  refine Ev.bind (implFind_ev mark a ha) (Ev.bind (implFind_ev mark b hb) ?_)
  have bad : Ev (fun k => impl_SameAt.j0 k (findV mark a 0) (findV mark b 0) true a b) (false, false) := Ev.stepc (fun k => by simp [impl_SameAt.j0])
  cases c1 : decide (0 ≤ findV mark a 0) && goodB a with
  | false => simpa using bad
  | true =>
    simp only [if_true]
    cases c2 : decide (0 ≤ findV mark b 0) && goodB b with
    | false => simpa using bad
    | true =>
      simp only [Bool.not_true, Bool.and_true, if_true]
      simp only [Bool.and_eq_true, decide_eq_true_eq] at c1 c2
      obtain ⟨i, hi⟩ := Int.eq_ofNat_of_zero_le c1.1
      obtain ⟨j, hj⟩ := Int.eq_ofNat_of_zero_le c2.1
      have b1 := findV_bd mark a 0
      have b2 := findV_bd mark b 0
      rw [hi] at b1
      rw [hj] at b2
      have g1 := implAt_ev a ha.1 (good_layers a ha c1.2).1 i (by omega)
      have g2 := implAt_ev b hb.1 (good_layers b hb c2.2).1 j (by omega)
      have g3 := equalT_ev (atV (a.take (i + 1))) (atV (b.take (j + 1))) (by rw [atV_len, atV_len]) (by rw [atV_len]; omega)
      rw [hi, hj]
      refine Ev.step (f := fun k => (impl_Marks_at.f k a (i : Int)).bind fun t207 => ((impl_Marks_at.f k b (j : Int)).bind fun t210 => ((slices_Equal_string_string.f k t207 t210).bind fun t213 => (some (t213, true))))) (fun k => ?_) (Ev.bind g1 (Ev.bind g2 (Ev.bind g3 (Ev.now _))))
      simp only [impl_SameAt.j0]
      rw [if_neg (by decide)]
theorem specBoth_ev (mark : Int) (a b : List S51) (ha : okL a) (hb : okL b) : Ev (fun k => spec_l15Both.f k a b mark) ((decide (0 ≤ findV mark a 0) && goodB a) && (decide (0 ≤ findV mark b 0) && goodB b)) := by
  unfold spec_l15Both.f
  refine Ev.bind (specGood_ev a ha) ?_
  cases goodB a with
  | false => simpa using Ev.now false
  | true =>
    simp only [if_true, Bool.and_true]
    refine Ev.bind (specGood_ev b hb) ?_
    cases goodB b with
    | false => simpa using Ev.now false
    | true =>
      simp only [if_true, Bool.and_true]
      refine Ev.bind (specFind_ev mark a ha.1) ?_
      by_cases c : findV mark a 0 ≥ 0
      · have c' : 0 ≤ findV mark a 0 := c
        simp only [if_pos c, decide_eq_true c', Bool.true_and]
        exact Ev.bind (specFind_ev mark b hb.1) (Ev.now _)
      · have c' : ¬ 0 ≤ findV mark a 0 := c
        simp only [if_neg c, decide_eq_false c', Bool.false_and]
        exact Ev.now _
theorem specSame_ev (mark : Int) (a b : List S51) (ha : okL a) (hb : okL b) (c1 : 0 ≤ findV mark a 0 ∧ goodB a = true) (c2 : 0 ≤ findV mark b 0 ∧ goodB b = true) : Ev (fun k => spec_l15Same.f k a b mark) (decide (atV (a.take ((findV mark a 0).toNat + 1)) = atV (b.take ((findV mark b 0).toNat + 1)))) := by
  obtain ⟨i, hi⟩ := Int.eq_ofNat_of_zero_le c1.1
  obtain ⟨j, hj⟩ := Int.eq_ofNat_of_zero_le c2.1
  have b1 := findV_bd mark a 0
  have b2 := findV_bd mark b 0
  rw [hi] at b1
  rw [hj] at b2
  have h := specSame_l0 mark a b ha hb (good_layers a ha c1.2).1 (good_layers b hb c2.2).1 i j (by omega) (by omega) hi hj 16 0 (by omega)
  rw [hi, hj]
  unfold spec_l15Same.f
  simpa using h

end Go.Proofs.Ythhnmdemmogjaaa.Pure

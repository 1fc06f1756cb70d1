/- Plain lemmas on what the printed functions answer: numbers and lists alone. -/
import Derived.Test.YthhnmdemmogjaaaPHx0
import Derived.Test.YthhnmdemmogjaaaPHx4
import Derived.Test.YthhnmdemmogjaaaFindV
import Derived.Test.YthhnmdemmogjaaaGoods
namespace Go.Proofs.Ythhnmdemmogjaaa.Pure
open Go.RowKit Go.Proofs.Ythhnmdemmogjaaa.PH Go.Proofs.YthhnmdemmogjaaaW.PrintWords Go.Proofs.YthhnmdemmogjaaaW.PrintLast
set_option linter.unusedVariables false
set_option linter.unusedSimpArgs false

theorem idxO_find (a : Int) : ∀ (l : List S51) (i : Nat), idxO (fun x : S51 => some (decide (x.f0 = a))) l i = some (findV a l i)
  | [], _ => rfl
  | x :: l, i => by
    simp only [idxO, findV, Option.bind_some]
    by_cases c : x.f0 = a
    · simp [c]
    · simpa [c] using idxO_find a l (i + 1)
theorem implFind_ev (a : Int) (l : List S51) (hl : okL l) : Ev (fun k => impl_Marks_find.f k l a) (findV a l 0, decide (0 ≤ findV a l 0) && goodB l) := by
  unfold impl_Marks_find.f
  simp only [idxO_find, Option.bind_some]
  by_cases c : 0 ≤ findV a l 0
  · simp only [if_pos c, decide_eq_true c, Bool.true_and]
    exact Ev.bind (implGood_ev l hl) (Ev.now _)
  · simp only [if_neg c, decide_eq_false c, Bool.false_and]
    exact Ev.now _

end Go.Proofs.Ythhnmdemmogjaaa.Pure

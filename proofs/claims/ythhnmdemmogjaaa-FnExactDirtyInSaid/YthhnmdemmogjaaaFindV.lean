/- Plain lemmas on what the printed functions answer: numbers and lists alone. -/
import Derived.Test.YthhnmdemmogjaaaPHx0
import Derived.Test.YthhnmdemmogjaaaLayerNums
namespace Go.Proofs.Ythhnmdemmogjaaa.Pure
open Go.RowKit Go.Proofs.Ythhnmdemmogjaaa.PH Go.Proofs.YthhnmdemmogjaaaW.PrintWords Go.Proofs.YthhnmdemmogjaaaW.PrintLast
set_option linter.unusedVariables false
set_option linter.unusedSimpArgs false

/-- the place of the first layer with a mark, -1 for none -/
def findV (a : Int) : List S51 → Nat → Int
  | [], _ => -1
  | x :: l, i => if x.f0 = a then (i : Int) else findV a l (i + 1)
theorem findV_bd (a : Int) : ∀ (l : List S51) (i : Nat), findV a l i = -1 ∨ ((i : Int) ≤ findV a l i ∧ findV a l i < (i : Int) + (l.length : Int))
  | [], _ => .inl rfl
  | x :: l, i => by
    simp only [findV]
    by_cases c : x.f0 = a
    · rw [if_pos c]
      refine .inr ⟨by omega, ?_⟩
      rw [List.length_cons]
      omega
    · rw [if_neg c]
      rcases findV_bd a l (i + 1) with h | h
      · exact .inl h
      · refine .inr ⟨by omega, ?_⟩
        rw [List.length_cons]
        omega

end Go.Proofs.Ythhnmdemmogjaaa.Pure

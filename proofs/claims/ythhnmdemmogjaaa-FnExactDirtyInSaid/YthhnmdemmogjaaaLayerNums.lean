/- Plain lemmas on what the printed functions answer: numbers and lists alone. -/
import Derived.Test.YthhnmdemmogjaaaPHx0
import Derived.Test.YthhnmdemmogjaaaNums
namespace Go.Proofs.Ythhnmdemmogjaaa.Pure
open Go.RowKit Go.Proofs.Ythhnmdemmogjaaa.PH Go.Proofs.YthhnmdemmogjaaaW.PrintWords Go.Proofs.YthhnmdemmogjaaaW.PrintLast
set_option linter.unusedVariables false
set_option linter.unusedSimpArgs false

theorem drop_rdL (l : List S51) (i : Nat) (h : i < l.length) : l.drop i = rd_T51 l (i : Int) :: l.drop (i + 1) := by
  rw [List.drop_eq_getElem_cons h]
  simp [rd_T51, List.getD_eq_getElem?_getD, h]
theorem mem_rdL (l : List S51) (i : Nat) (h : i < l.length) : rd_T51 l (i : Int) ∈ l := by
  have e : rd_T51 l (i : Int) = l[i] := by simp [rd_T51, List.getD_eq_getElem?_getD, h]
  rw [e]
  exact List.getElem_mem h

end Go.Proofs.Ythhnmdemmogjaaa.Pure

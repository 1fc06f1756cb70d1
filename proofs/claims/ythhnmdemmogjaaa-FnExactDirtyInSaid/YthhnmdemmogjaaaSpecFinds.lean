/- Plain lemmas on what the printed functions answer: numbers and lists alone. -/
import Derived.Test.YthhnmdemmogjaaaPHx0
import Derived.Test.YthhnmdemmogjaaaPHx7
import Derived.Test.YthhnmdemmogjaaaFindV
namespace Go.Proofs.Ythhnmdemmogjaaa.Pure
open Go.RowKit Go.Proofs.Ythhnmdemmogjaaa.PH Go.Proofs.YthhnmdemmogjaaaW.PrintWords Go.Proofs.YthhnmdemmogjaaaW.PrintLast
set_option linter.unusedVariables false
set_option linter.unusedSimpArgs false

theorem specFind_l0 (a : Int) (l : List S51) (hb : l.length ≤ 1048576) : ∀ (d i : Nat), i + d = l.length →
    Ev (fun k => spec_l7Find.l0 k a l (l.length : Int) (i : Int)) (findV a (l.drop i) i)
  | 0, i, h => Ev.stepc (fun k => by
      simp only [spec_l7Find.l0]
      rw [if_neg (by omega), show l.drop i = [] from List.drop_eq_nil_of_le (by omega)]
      rfl)
  | d + 1, i, h => by
    rw [drop_rdL l i (by omega)]
    simp only [findV]
    by_cases c : (rd_T51 l (i : Int)).f0 = a
    · rw [if_pos c]
      refine Ev.stepc (fun k => ?_)
      simp only [spec_l7Find.l0]
      rw [if_pos (by omega), if_pos (by omega), if_pos (by omega), if_pos c]
    · rw [if_neg c]
      refine Ev.step (fun k => ?_) (specFind_l0 a l hb d (i + 1) (by omega))
      simp only [spec_l7Find.l0]
      rw [if_pos (by omega), if_pos (by omega), if_pos (by omega), if_neg c, wnat (by omega)]
theorem specFind_ev (a : Int) (l : List S51) (hb : l.length ≤ 1048576) : Ev (fun k => spec_l7Find.f k l a) (findV a l 0) := by
  have h := specFind_l0 a l hb l.length 0 (by omega)
  unfold spec_l7Find.f
  simpa using h

end Go.Proofs.Ythhnmdemmogjaaa.Pure

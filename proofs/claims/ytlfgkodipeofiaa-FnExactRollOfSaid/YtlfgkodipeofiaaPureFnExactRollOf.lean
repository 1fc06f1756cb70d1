/- The program's RollOf returns what the reference's returns: for all arguments, with no condition. -/
import Derived.Test.YtlfgkodipeofiaaPAx1
import Derived.Test.YtlfgkodipeofiaaRoll
namespace Go.Proofs.Ytlfgkodipeofiaa.Pure
open Go.RowKit Go.Proofs.Ytlfgkodipeofiaa.PA Go.Proofs.YtlfgkodipeofiaaW.PrintWords Go.Proofs.YtlfgkodipeofiaaW.PrintLast
set_option linter.unusedVariables false
set_option linter.unusedSimpArgs false

theorem FnExactRollOf : laws_FnExactRollOf.Pure := by
  intro a0 _
  suffices h : Ev (fun k => laws_FnExactRollOf.f k a0) true from h.rounds
  unfold laws_FnExactRollOf.f spec_RollOf.f impl_RollOf.f spec_l11Long.f impl_isShort.f
  by_cases c1 : (a0.size : Int) > 1048576
  · simp only [if_pos c1]
    exact Ev.now true
  · simp only [if_neg c1]
    by_cases c2 : (a0.size : Int) ≤ 120
    · have h := spec_roll_ev a0 (by omega)
      simp only [decide_eq_true c2, Option.bind_some, if_true, impl_rollOf_eq a0 (by omega)]
      refine Ev.bind (g := fun k => (spec_l11Roll.f k a0).bind fun t => some (t, true)) (a := (rollV a0, true)) (Ev.bind h (Ev.now _)) ?_
      simpa using Ev.now true
    · simp only [decide_eq_false c2, Option.bind_some]
      simpa using Ev.now true

end Go.Proofs.Ytlfgkodipeofiaa.Pure

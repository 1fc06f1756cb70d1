/- Plain lemmas on what the printed functions answer: numbers and lists alone. -/
import Derived.Test.YtpdpbhjdelehmaaPDx1
import Derived.Test.YtpdpbhjdelehmaaPDx3
import Derived.Test.YtpdpbhjdelehmaaRising
namespace Go.Proofs.Ytpdpbhjdelehmaa.Pure
open Go.RowKit Go.Proofs.Ytpdpbhjdelehmaa.PD Go.Proofs.YtpdpbhjdelehmaaW.PrintWords Go.Proofs.YtpdpbhjdelehmaaW.PrintLast
set_option linter.unusedVariables false
set_option linter.unusedSimpArgs false

theorem spec_good_ev (l : List Int) (hb : l.length ≤ 1099511627776) : Ev (fun k => spec_GoodSet.f k l) (decide ((l.length : Int) ≤ 20) && (l.all (inB 1 60) && ris l)) := by
  unfold spec_GoodSet.f
  by_cases h : (l.length : Int) ≤ 20
  · simp only [if_pos h, decide_eq_true h, Bool.true_and]
    exact Ev.bind (l1Rising_ev l 1 60 hb) (Ev.now _)
  · simp only [if_neg h, decide_eq_false h, Bool.false_and]
    exact Ev.now _
theorem impl_good_ev (l : List Int) (hb : l.length ≤ 1099511627776) : Ev (fun k => impl_GoodSet.f k l) (decide ((l.length : Int) ≤ 20) && (l.all (inB 1 60) && ris l)) := by
  unfold impl_GoodSet.f
  by_cases h : (l.length : Int) ≤ 20
  · simp only [if_pos h, decide_eq_true h, Bool.true_and]
    refine Ev.bind (areRising_ev l hb) ?_
    cases ris l with
    | true =>
      simp only [if_true, allO_within, Bool.and_true]
      exact Ev.now _
    | false => simpa using Ev.now false
  · simp only [if_neg h, decide_eq_false h, Bool.false_and]
    exact Ev.now _

end Go.Proofs.Ytpdpbhjdelehmaa.Pure

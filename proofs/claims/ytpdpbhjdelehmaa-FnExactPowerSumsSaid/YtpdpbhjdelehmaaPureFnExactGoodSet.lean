/- The program's GoodSet returns what the reference's returns: for all arguments, with no condition. -/
import Derived.Test.YtpdpbhjdelehmaaPAx1
import Derived.Test.YtpdpbhjdelehmaaPAx2
import Derived.Test.YtpdpbhjdelehmaaRising
import Derived.Test.YtpdpbhjdelehmaaToInts
import Derived.Test.YtpdpbhjdelehmaaEqInts
namespace Go.Proofs.Ytpdpbhjdelehmaa.Pure
open Go.RowKit Go.Proofs.Ytpdpbhjdelehmaa.PA Go.Proofs.YtpdpbhjdelehmaaW.PrintWords Go.Proofs.YtpdpbhjdelehmaaW.PrintLast
set_option linter.unusedVariables false
set_option linter.unusedSimpArgs false

theorem spec_good_ev (l : List Int) (hb : l.length ≤ 1099511627776) : Ev (fun k => spec_GoodSet.f k l) (decide ((l.length : Int) ≤ 20) && (l.all (inB 1 60) && ris l)) := by
  unfold spec_GoodSet.f
  by_cases h : (l.length : Int) ≤ 20
  · simp only [if_pos h, decide_eq_true h, Bool.true_and]
    exact Ev.bind (l1Rising_ev l 1 60 hb) (Ev.now _)
  · simp only [if_neg h, decide_eq_false h, Bool.false_and]
    exact Ev.now _
theorem impl_good_ev (l : List Int) (hb : l.length ≤ 1099511627776) : Ev (fun k => impl_GoodSet.f k l) (decide ((l.length : Int) ≤ 20) && (l.all (inB 1 60) && ris l)) := by
  unfold impl_GoodSet.f
  by_cases h : (l.length : Int) ≤ 20
  · simp only [if_pos h, decide_eq_true h, Bool.true_and]
    refine Ev.bind (areRising_ev l hb) ?_
    cases ris l with
    | true =>
      simp only [if_true, allO_within, Bool.and_true]
      exact Ev.now _
    | false => simpa using Ev.now false
  · simp only [if_neg h, decide_eq_false h, Bool.false_and]
    exact Ev.now _
theorem FnExactGoodSet : laws_FnExactGoodSet.Pure := by
  intro l _ _ _
  suffices h : Ev (fun k => laws_FnExactGoodSet.f k l) true from h.rounds
  unfold laws_FnExactGoodSet.f
  by_cases c1 : (l.length : Int) > 1048576
  · simp only [if_pos c1]
    exact Ev.now true
  · simp only [if_neg c1]
    have t := toIntS_ev l (by omega)
    refine Ev.bind t (Ev.bind (spec_good_ev l (by omega)) (Ev.bind t (Ev.bind (impl_good_ev l (by omega)) ?_)))
    simp only [bne_self_eq_false, Bool.false_eq_true, if_false]
    refine Ev.bind t (Ev.bind (eqIntS_self l (by omega)) ?_)
    exact Ev.now true

end Go.Proofs.Ytpdpbhjdelehmaa.Pure

/- The program's GoodDelta returns what the reference's returns: for all arguments, with no condition. -/
import Derived.Test.YtlfgkodipeofiaaPBx3
import Derived.Test.YtlfgkodipeofiaaParts
namespace Go.Proofs.Ytlfgkodipeofiaa.Pure
open Go.RowKit Go.Proofs.Ytlfgkodipeofiaa.PB Go.Proofs.YtlfgkodipeofiaaW.PrintWords Go.Proofs.YtlfgkodipeofiaaW.PrintLast
set_option linter.unusedVariables false
set_option linter.unusedSimpArgs false

theorem FnExactGoodDelta : laws_FnExactGoodDelta.Pure := by
  intro s l hs ⟨hl, hw⟩
  suffices h : Ev (fun k => laws_FnExactGoodDelta.f k s l) true from h.rounds
  unfold laws_FnExactGoodDelta.f
  by_cases c1 : (s.size : Int) > 1048576
  · simp only [if_pos c1]
    exact Ev.now true
  · simp only [if_neg c1]
    obtain ⟨r, hr, hr2⟩ := szPartS_ev l hl hw
    refine Ev.bind hr ?_
    by_cases c2 : r < 0
    · simp only [if_pos c2]
      exact Ev.now true
    · simp only [if_neg c2]
      have hl2 := (hr2 (by omega)).1
      have t := toPartS_ev l hl2
      have hw2 := wfP_cv l hw
      refine Ev.bind t (Ev.bind (spec_good_ev s (by omega) _ (by simpa using hl2) hw2) (Ev.bind t (Ev.bind (impl_good_ev s (by omega) _ (by simpa using hl2) hw2) ?_)))
      simp only [bne_self_eq_false, Bool.false_eq_true, if_false]
      refine Ev.bind t (Ev.bind (eqPartS_self _ (by simp; omega)) ?_)
      exact Ev.now true

end Go.Proofs.Ytlfgkodipeofiaa.Pure

/- The program's ApplyDelta returns what the reference's returns: for all arguments, with no condition. -/
import Derived.Test.YtlfgkodipeofiaaPBx3
import Derived.Test.YtlfgkodipeofiaaParts
namespace Go.Proofs.Ytlfgkodipeofiaa.Pure
open Go.RowKit Go.Proofs.Ytlfgkodipeofiaa.PB Go.Proofs.YtlfgkodipeofiaaW.PrintWords Go.Proofs.YtlfgkodipeofiaaW.PrintLast
set_option linter.unusedVariables false
set_option linter.unusedSimpArgs false

theorem FnExactApplyDelta : laws_FnExactApplyDelta.Pure := by
  intro s l hs ⟨hl, hw⟩
  suffices h : Ev (fun k => laws_FnExactApplyDelta.f k s l) true from h.rounds
  unfold laws_FnExactApplyDelta.f
  by_cases c1 : (s.size : Int) > 1048576
  · simp only [if_pos c1]
    exact Ev.now true
  · simp only [if_neg c1]
    obtain ⟨r, hr, hr2⟩ := szPartS_ev l hl hw
    refine Ev.bind hr ?_
    by_cases c2 : r < 0
    · simp only [if_pos c2]
      exact Ev.now true
    · simp only [if_neg c2]
      have hl2 := (hr2 (by omega)).1
      have t := toPartS_ev l hl2
      have hw2 := wfP_cv l hw
      have hl3 : (l.map cvPart).length ≤ 1048576 := by simpa using hl2
      obtain ⟨a, b, h1, h2⟩ : ∃ (a : ByteArray) (b : Bool), Ev (fun k => spec_ApplyDelta.f k s (l.map cvPart)) (a, b) ∧ Ev (fun k => impl_ApplyDelta.f k s (l.map cvPart)) (a, b) := by
        unfold spec_ApplyDelta.f impl_ApplyDelta.f
        have g1 := spec_good_ev s (by omega) _ hl3 hw2
        have g2 := impl_good_ev s (by omega) _ hl3 hw2
        cases c3 : deltaB s.size (l.map cvPart) with
        | false =>
          rw [c3] at g1 g2
          exact ⟨⟨#[]⟩, false, Ev.bind g1 (by simpa using Ev.now _), Ev.bind g2 (by simpa using Ev.now _)⟩
        | true =>
          rw [c3] at g1 g2
          have hg : (l.map cvPart).all (partB s.size) = true := by
            unfold deltaB at c3
            simp only [Bool.and_eq_true] at c3
            exact c3.2.2.1
          exact ⟨_, true, Ev.bind g1 (by simp only [if_true]; exact Ev.bind (spec_apply_ev s (by omega) _ hl3 hg) (Ev.now _)), Ev.bind g2 (by simp only [if_true]; exact Ev.bind (impl_apply_ev s (by omega) _ hl3 hg) (Ev.now _))⟩
      refine Ev.bind t (Ev.bind h1 (Ev.bind t (Ev.bind h2 ?_)))
      simp only [bne_self_eq_false, if_true]
      refine Ev.step (fun k => by rw [laws_FnExactApplyDelta.j0]) ?_
      simp only [Bool.false_eq_true, if_false]
      refine Ev.bind t (Ev.bind (eqPartS_self _ (by omega)) ?_)
      exact Ev.now true

end Go.Proofs.Ytlfgkodipeofiaa.Pure

/- The program's DeltaOf returns what the reference's returns: for all arguments, with no condition. -/
import Derived.Test.YtlfgkodipeofiaaPEx0
import Derived.Test.YtlfgkodipeofiaaPEx1
import Derived.Test.YtlfgkodipeofiaaPEx2
import Derived.Test.YtlfgkodipeofiaaPEx3
import Derived.Test.YtlfgkodipeofiaaPEx4
import Derived.Test.YtlfgkodipeofiaaDeltas
import Derived.Test.YtlfgkodipeofiaaPartEq
import Derived.Test.YtlfgkodipeofiaaPartMarks
namespace Go.Proofs.Ytlfgkodipeofiaa.Pure
open Go.RowKit Go.Proofs.Ytlfgkodipeofiaa.PE Go.Proofs.YtlfgkodipeofiaaW.PrintWords Go.Proofs.YtlfgkodipeofiaaW.PrintLast
set_option linter.unusedVariables false
set_option linter.unusedSimpArgs false

theorem FnExactDeltaOf : laws_FnExactDeltaOf.Pure := by
  intro old s _ _
  suffices h : Ev (fun k => laws_FnExactDeltaOf.f k old s) true from h.rounds
  unfold laws_FnExactDeltaOf.f
  by_cases c0 : (old.size : Int) > 1048576
  · simp only [if_pos c0]
    exact Ev.now _
  · by_cases c1 : (s.size : Int) > 1048576
    · simp only [if_neg c0, if_pos c1]
      exact Ev.now _
    · simp only [if_neg c0, if_neg c1]
      obtain ⟨L, b, hn, h1, h2⟩ : ∃ (L : List S59) (b : Bool), L.length ≤ 1048576 ∧ Ev (fun k => spec_DeltaOf.f k old s) (L, b) ∧ Ev (fun k => impl_DeltaOf.f k old s) (L, b) := by
        unfold spec_DeltaOf.f impl_DeltaOf.f spec_l11Long.f impl_isShort.f
        by_cases d1 : (old.size : Int) ≤ 120
        · by_cases d2 : (s.size : Int) ≤ 120
          · obtain ⟨R, hR, g1, g2⟩ := delta_ev old s (by omega) (by omega)
            refine ⟨R, true, by omega, ?_, ?_⟩
            · simp only [decide_eq_true d1, decide_eq_true d2, Option.bind_some, if_true]
              exact Ev.bind g1 (Ev.now _)
            · simp only [decide_eq_true d1, decide_eq_true d2, Option.bind_some, if_true]
              exact Ev.bind g2 (Ev.now _)
          · exact ⟨[], false, by simp, by simpa [d1, d2] using Ev.now _, by simpa [d1, d2] using Ev.now _⟩
        · exact ⟨[], false, by simp, by simpa [d1] using Ev.now _, by simpa [d1] using Ev.now _⟩
      have t1 := eqPartS_self L (by omega)
      have t2 := markPartS_ev L 1 (by omega) (by omega) (by omega)
      have t3 := heldPartS_ev L.length 1 (by omega) (by omega) (by omega)
      have c4 : ¬ 1 + 3 * (L.length : Int) < 0 := by omega
      refine Ev.bind h1 (Ev.bind h2 (Ev.bind t1 ?_))
      simp only [if_true, bne_self_eq_false]
      refine Ev.step (fun k => by rw [laws_FnExactDeltaOf.j0]) ?_
      simp only [Bool.false_eq_true, if_false]
      refine Ev.bind t2 (Ev.bind t3 ?_)
      simp only [if_neg c4, if_true]
      refine Ev.bind h2 (Ev.bind t1 ?_)
      simp only [if_true, bne_self_eq_false]
      refine Ev.step (fun k => by rw [laws_FnExactDeltaOf.j1]) ?_
      simp only [Bool.false_eq_true, if_false]
      refine Ev.bind t3 ?_
      simp only [if_neg c4, if_true]
      exact Ev.now true

end Go.Proofs.Ytlfgkodipeofiaa.Pure

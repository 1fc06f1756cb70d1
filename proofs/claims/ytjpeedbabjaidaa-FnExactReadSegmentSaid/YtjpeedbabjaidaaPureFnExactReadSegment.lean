/- The program's ReadSegment returns what the reference's returns: for all arguments, with no condition. -/
import Derived.Test.YtjpeedbabjaidaaPBx6
import Derived.Test.YtjpeedbabjaidaaPBx7
import Derived.Test.YtjpeedbabjaidaaRecordS
namespace Go.Proofs.Ytjpeedbabjaidaa.Pure
open Go.RowKit Go.Proofs.Ytjpeedbabjaidaa.PB Go.Proofs.YtjpeedbabjaidaaW.PrintWords Go.Proofs.YtjpeedbabjaidaaW.PrintLast
set_option linter.unusedVariables false
set_option linter.unusedSimpArgs false

theorem FnExactReadSegment : laws_FnExactReadSegment.Pure := by
  intro x hx0
  suffices h : Ev (fun k => laws_FnExactReadSegment.f k x) true from h.rounds
  unfold laws_FnExactReadSegment.f
  by_cases c0 : (x.size : Int) > 1048576
  · simp only [if_pos c0]
    exact Ev.now _
  · simp only [if_neg c0]
    obtain ⟨L, e, b, hn, h1, h2⟩ : ∃ (L : List Q) (e : Int) (b : Bool), L.length ≤ 1048576 ∧ Ev (fun k => spec_ReadSegment.f k x) (L, e, b) ∧ Ev (fun k => impl_ReadSegment.f k x) (L, e, b) := by
      unfold spec_ReadSegment.f impl_ReadSegment.f
      by_cases c1 : (x.size : Int) > 300
      · simp only [if_pos c1]
        exact ⟨[], 0, false, by simp, Ev.now _, Ev.now _⟩
      · simp only [if_neg c1]
        obtain ⟨L, e, h3, h4, h5, h6⟩ := segs_ev x (by omega)
        exact ⟨L, (e : Int), true, by omega, Ev.bind h5 (Ev.now _), Ev.bind h6 (Ev.now _)⟩
    have t1 := eqRecordS_self L (by omega)
    have t2 := markRecordS_ev L 1 (by omega) (by omega) (by omega)
    have t3 := heldRecordS_ev L.length 1 (by omega) (by omega) (by omega)
    have c4 : ¬ 1 + 4 * (L.length : Int) < 0 := by omega
    refine Ev.bind h1 (Ev.bind h2 (Ev.bind t1 ?_))
    simp only [if_true, bne_self_eq_false]
    refine Ev.step (fun k => by rw [laws_FnExactReadSegment.j0]) ?_
    simp only [Bool.false_eq_true, if_false]
    refine Ev.bind t2 (Ev.bind t3 ?_)
    simp only [if_neg c4, if_true]
    refine Ev.bind h2 (Ev.bind t1 ?_)
    simp only [if_true, bne_self_eq_false]
    refine Ev.step (fun k => by rw [laws_FnExactReadSegment.j1]) ?_
    simp only [Bool.false_eq_true, if_false]
    refine Ev.bind t3 ?_
    simp only [if_neg c4, if_true]
    exact Ev.now true

end Go.Proofs.Ytjpeedbabjaidaa.Pure

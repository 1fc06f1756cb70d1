/- The program's ReduceMasks returns what the reference's returns: for all arguments, with no condition. -/
import Derived.Test.YtmglhpajnhdafaaPQx6
import Derived.Test.YtmglhpajnhdafaaRedMasks
import Derived.Test.YtmglhpajnhdafaaIntsOut
namespace Go.Proofs.Ytmglhpajnhdafaa.Pure
open Go.RowKit Go.Proofs.Ytmglhpajnhdafaa.PQ Go.Proofs.YtmglhpajnhdafaaW.PrintWords Go.Proofs.YtmglhpajnhdafaaW.PrintLast
set_option linter.unusedVariables false
set_option linter.unusedSimpArgs false

theorem FnExactReduceMasks : laws_FnExactReduceMasks.Pure := by
  intro a l _ _ _ _
  suffices h : Ev (fun k => laws_FnExactReduceMasks.f k a l) true from h.rounds
  unfold laws_FnExactReduceMasks.f
  by_cases c1 : (l.length : Int) > 1048576
  · simp only [if_pos c1]
    exact Ev.now true
  · have hb : l.length ≤ 1099511627776 := by omega
    have t := toIntS_ev l hb
    obtain ⟨L, b, hL, h1, h2⟩ := reduce_both a l (by omega)
    have e1 := eqIntS_self L hL
    have e2 := eqIntS_self l hb
    have m0 := markIntS_ev l 1 (by omega) (by omega) hb
    have m1 := markIntS_ev L 1 (by omega) (by omega) hL
    have m2 := heldIntS_ev L.length 1 (by omega) (by omega) hL
    have n1 := neg_len L
    have n2 := neg_len l
    have j2 : Ev (fun k => laws_FnExactReduceMasks.j2 k (upFrom 1 L.length) (1 + (L.length : Int)) false) true := by
      refine Ev.step (fun k => by rw [laws_FnExactReduceMasks.j2]) ?_
      simp only [Bool.false_eq_true, if_false]
      refine Ev.bind m2 ?_
      simp only [if_neg n1, if_true]
      exact Ev.now true
    have j1 : Ev (fun k => laws_FnExactReduceMasks.j1 k a l L b L false) true := by
      refine Ev.step (fun k => by rw [laws_FnExactReduceMasks.j1]) ?_
      simp only [Bool.false_eq_true, if_false]
      refine Ev.bind m1 (Ev.bind m2 ?_)
      simp only [if_neg n1, if_true]
      refine Ev.bind t (Ev.bind h2 (Ev.bind e1 ?_))
      simp only [if_true, bne_self_eq_false]
      exact j2
    have j0 : Ev (fun k => laws_FnExactReduceMasks.j0 k a l L b l L b false) true := by
      refine Ev.step (fun k => by rw [laws_FnExactReduceMasks.j0]) ?_
      simp only [Bool.false_eq_true, if_false]
      refine Ev.bind t (Ev.bind e2 ?_)
      simp only [if_true]
      refine Ev.bind m0 ?_
      simp only [if_neg n2]
      refine Ev.bind e1 ?_
      simp only [if_true, bne_self_eq_false]
      exact j1
    simp only [if_neg c1]
    refine Ev.bind t (Ev.bind h1 (Ev.bind t (Ev.bind h2 (Ev.bind e1 ?_))))
    simp only [bne_self_eq_false, if_true]
    exact j0

end Go.Proofs.Ytmglhpajnhdafaa.Pure

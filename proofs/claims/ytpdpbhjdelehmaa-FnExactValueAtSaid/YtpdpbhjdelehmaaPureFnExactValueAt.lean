/- The program's ValueAt returns what the reference's returns: for all arguments, with no condition. -/
import Derived.Test.YtpdpbhjdelehmaaPAx3
import Derived.Test.YtpdpbhjdelehmaaValues
import Derived.Test.YtpdpbhjdelehmaaToInts
import Derived.Test.YtpdpbhjdelehmaaEqInts
namespace Go.Proofs.Ytpdpbhjdelehmaa.Pure
open Go.RowKit Go.Proofs.Ytpdpbhjdelehmaa.PA Go.Proofs.YtpdpbhjdelehmaaW.PrintWords Go.Proofs.YtpdpbhjdelehmaaW.PrintLast
set_option linter.unusedVariables false
set_option linter.unusedSimpArgs false

theorem FnExactValueAt : laws_FnExactValueAt.Pure := by
  intro l a _ _ _ _
  suffices h : Ev (fun k => laws_FnExactValueAt.f k l a) true from h.rounds
  by_cases c1 : (l.length : Int) > 1048576
  · unfold laws_FnExactValueAt.f
    simp only [if_pos c1]
    exact Ev.now true
  · have hb : l.length ≤ 1099511627776 := by omega
    have t := toIntS_ev l (by omega)
    obtain ⟨b, c, h1, h2⟩ : ∃ (b : Int) (c : Bool), Ev (fun k => spec_ValueAt.f k l a) (b, c) ∧ Ev (fun k => impl_ValueAt.f k l a) (b, c) := by
      unfold spec_ValueAt.f impl_ValueAt.f
      simp only [l1In_eq, within_eq, areSums_eq, Option.bind_some]
      have h1 := numbers_ev l hb
      cases c2 : sumsB l with
      | false =>
        rw [c2] at h1
        exact ⟨0, false, Ev.bind h1 (by simpa using Ev.now _), by simpa using Ev.now _⟩
      | true =>
        rw [c2] at h1
        cases c3 : inB 0 60 a with
        | false => exact ⟨0, false, Ev.bind h1 (by simpa using Ev.now _), by simpa using Ev.now _⟩
        | true =>
          obtain ⟨r, v1, v2⟩ := value_ev l hb a
          simp only [if_true]
          exact ⟨r, true, Ev.bind h1 (by simp only [if_true]; exact Ev.bind v1 (Ev.now _)), Ev.bind v2 (Ev.now _)⟩
    have j0 : Ev (fun k => laws_FnExactValueAt.j0 k l l false) true := by
      refine Ev.step (fun k => by rw [laws_FnExactValueAt.j0]) ?_
      simp only [Bool.false_eq_true, if_false]
      exact Ev.bind t (Ev.bind (eqIntS_self l (by omega)) (Ev.now true))
    unfold laws_FnExactValueAt.f
    simp only [if_neg c1]
    refine Ev.bind t (Ev.bind h1 (Ev.bind t (Ev.bind h2 ?_)))
    simp only [bne_self_eq_false, if_true]
    exact j0

end Go.Proofs.Ytpdpbhjdelehmaa.Pure

/- The program's IsMajority returns what the reference's returns: for all arguments, with no condition. -/
import Derived.Test.YtpdpbhjdelehmaaPAx2
import Derived.Test.YtpdpbhjdelehmaaRising
import Derived.Test.YtpdpbhjdelehmaaToInts
import Derived.Test.YtpdpbhjdelehmaaEqInts
namespace Go.Proofs.Ytpdpbhjdelehmaa.Pure
open Go.RowKit Go.Proofs.Ytpdpbhjdelehmaa.PA Go.Proofs.YtpdpbhjdelehmaaW.PrintWords Go.Proofs.YtpdpbhjdelehmaaW.PrintLast
set_option linter.unusedVariables false
set_option linter.unusedSimpArgs false

theorem FnExactIsMajority : laws_FnExactIsMajority.Pure := by
  intro a l _ _ _ _
  suffices h : Ev (fun k => laws_FnExactIsMajority.f k a l) true from h.rounds
  by_cases c1 : (l.length : Int) > 1048576
  · unfold laws_FnExactIsMajority.f
    simp only [if_pos c1]
    exact Ev.now true
  · have hb : l.length ≤ 1099511627776 := by omega
    have t := toIntS_ev l (by omega)
    obtain ⟨b, c, h1, h2⟩ : ∃ b c : Bool, Ev (fun k => spec_IsMajority.f k a l) (b, c) ∧ Ev (fun k => impl_IsMajority.f k a l) (b, c) := by
      unfold spec_IsMajority.f impl_IsMajority.f impl_isJudges.f spec_l13Majority.f impl_isMost.f
      simp only [l1In_eq, within_eq a, Option.bind_some]
      cases inB 1 5 a with
      | false => exact ⟨false, false, by simpa using Ev.now _, by simpa using Ev.now _⟩
      | true =>
        simp only [if_true]
        have h1 := l1Rising_ev l 0 (wrap64 (a - 1)) hb
        have h2 := areRising_ev l hb
        cases c2 : ris l with
        | false =>
          rw [c2] at h1 h2
          rw [Bool.and_false] at h1
          exact ⟨false, false, Ev.bind h1 (by simpa using Ev.now _), Ev.bind h2 (by simpa using Ev.now _)⟩
        | true =>
          rw [c2] at h1 h2
          rw [Bool.and_true] at h1
          cases c3 : l.all (inB 0 (wrap64 (a - 1))) with
          | false =>
            rw [c3] at h1
            exact ⟨false, false, Ev.bind h1 (by simpa using Ev.now _), Ev.bind h2 (by simp only [if_true, allO_within, c3, Option.bind_some]; simpa using Ev.now _)⟩
          | true =>
            rw [c3] at h1
            exact ⟨_, true, Ev.bind h1 (by simp only [if_true]; exact Ev.now _), Ev.bind h2 (by simp only [if_true, allO_within, c3, Option.bind_some]; exact Ev.now _)⟩
    have j0 : Ev (fun k => laws_FnExactIsMajority.j0 k l l false) true := by
      refine Ev.step (fun k => by rw [laws_FnExactIsMajority.j0]) ?_
      simp only [Bool.false_eq_true, if_false]
      exact Ev.bind t (Ev.bind (eqIntS_self l (by omega)) (Ev.now true))
    unfold laws_FnExactIsMajority.f
    simp only [if_neg c1]
    refine Ev.bind t (Ev.bind h1 (Ev.bind t (Ev.bind h2 ?_)))
    simp only [bne_self_eq_false, Bool.false_eq_true, if_false]
    exact j0

end Go.Proofs.Ytpdpbhjdelehmaa.Pure

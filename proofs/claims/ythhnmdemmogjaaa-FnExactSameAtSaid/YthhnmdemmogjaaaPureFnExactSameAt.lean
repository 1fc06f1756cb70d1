/- The program's SameAt returns what the reference's returns: for all arguments, with no condition. -/
import Derived.Test.YthhnmdemmogjaaaPBx0
import Derived.Test.YthhnmdemmogjaaaPBx8
import Derived.Test.YthhnmdemmogjaaaPBx9
import Derived.Test.YthhnmdemmogjaaaSameV
import Derived.Test.YthhnmdemmogjaaaSzLayers
import Derived.Test.YthhnmdemmogjaaaEqLayers
namespace Go.Proofs.Ythhnmdemmogjaaa.Pure
open Go.RowKit Go.Proofs.Ythhnmdemmogjaaa.PB Go.Proofs.YthhnmdemmogjaaaW.PrintWords Go.Proofs.YthhnmdemmogjaaaW.PrintLast
set_option linter.unusedVariables false
set_option linter.unusedSimpArgs false

theorem specSameAt_ev (mark : Int) (a b : List S51) (ha : okL a) (hb : okL b) : Ev (fun k => spec_SameAt.f k a b mark) (sameV mark a b) := by
  unfold spec_SameAt.f sameV
  refine Ev.bind (specBoth_ev mark a b ha hb) ?_
  cases c : (decide (0 ≤ findV mark a 0) && goodB a) && (decide (0 ≤ findV mark b 0) && goodB b) with
  | false => simpa using Ev.now _
  | true =>
    simp only [if_true]
    simp only [Bool.and_eq_true, decide_eq_true_eq] at c
    exact Ev.bind (specSame_ev mark a b ha hb c.1 c.2) (Ev.now _)
theorem okL_cv (l : List S98) (h : l.length ≤ 1048576 ∧ ∀ x ∈ l, smallW x) : okL (l.map cvL) := by
  refine ⟨by rw [List.length_map]; exact h.1, fun x hx => ?_⟩
  obtain ⟨y, hy, rfl⟩ := List.mem_map.1 hx
  exact h.2 y hy
theorem FnExactSameAt : laws_FnExactSameAt.Pure := by
  intro a b mark ⟨ha, hwa⟩ ⟨hb, hwb⟩ _
  suffices h : Ev (fun k => laws_FnExactSameAt.f k a b mark) true from h.rounds
  unfold laws_FnExactSameAt.f
  obtain ⟨r, hr, hr1, hr2⟩ := szMarks_ev a ha hwa 1048576 (by omega) (by omega)
  refine Ev.bind hr ?_
  by_cases c1 : r < 0
  · simp only [if_pos c1]
    exact Ev.now true
  · simp only [if_neg c1]
    obtain ⟨q, hq, hq1, hq2⟩ := szMarks_ev b hb hwb r (by omega) hr1
    refine Ev.bind hq ?_
    by_cases c2 : q < 0
    · simp only [if_pos c2]
      exact Ev.now true
    · simp only [if_neg c2]
      have sa := hr2 (by omega)
      have sb := hq2 (by omega)
      have ta := toMarks_ev a sa.1 sa.2
      have tb := toMarks_ev b sb.1 sb.2
      have oa := okL_cv a sa
      have ob := okL_cv b sb
      have h1 := specSameAt_ev mark (a.map cvL) (b.map cvL) oa ob
      have h2 := implSame_ev mark (a.map cvL) (b.map cvL) oa ob
      have e1 := eqMarks_self (a.map cvL) oa.1 oa.2
      have e2 := eqMarks_self (b.map cvL) ob.1 ob.2
      refine Ev.bind ta (Ev.bind tb (Ev.bind h1 (Ev.bind ta (Ev.bind tb (Ev.bind h2 ?_)))))
      simp only [bne_self_eq_false, Bool.false_eq_true, if_false]
      refine Ev.step (fun k => by rw [laws_FnExactSameAt.j0]) ?_
      simp only [Bool.false_eq_true, if_false]
      refine Ev.bind ta (Ev.bind e1 ?_)
      simp only [if_true]
      refine Ev.bind tb (Ev.bind e2 ?_)
      simp only [if_true]
      exact Ev.now true

end Go.Proofs.Ythhnmdemmogjaaa.Pure

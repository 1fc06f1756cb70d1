/- Plain lemmas on what the printed functions answer: numbers and lists alone. -/
import Derived.Test.YtpdpbhjdelehmaaPAx2
import Derived.Test.YtpdpbhjdelehmaaPAx3
import Derived.Test.YtpdpbhjdelehmaaRising
namespace Go.Proofs.Ytpdpbhjdelehmaa.Pure
open Go.RowKit Go.Proofs.Ytpdpbhjdelehmaa.PA Go.Proofs.YtpdpbhjdelehmaaW.PrintWords Go.Proofs.YtpdpbhjdelehmaaW.PrintLast
set_option linter.unusedVariables false
set_option linter.unusedSimpArgs false

theorem valueAt_same : ∀ (k : Nat) (x a s : Int) (l : List Int) (n i : Int), spec_l12Value.l0 k x a s l n i = impl_valueAt.l0 k x a s l n i
  | 0, _, _, _, _, _, _ => rfl
  | k + 1, x, a, s, l, n, i => by
    simp only [spec_l12Value.l0, impl_valueAt.l0]
    simp only [valueAt_same k]
theorem valueAt_some (l : List Int) (hb : l.length ≤ 1099511627776) (x : Int) : ∀ (d i : Nat) (a s : Int), i + d = l.length → ∃ r, Ev (fun k => impl_valueAt.l0 k x a s l (l.length : Int) (i : Int)) r
  | 0, i, a, s, h => ⟨a, Ev.stepc (fun k => by
      simp only [impl_valueAt.l0]
      rw [if_neg (by omega)])⟩
  | d + 1, i, a, s, h => by
    obtain ⟨r, ih⟩ := valueAt_some l hb x d (i + 1) (wrap64 ((wrap64 (a * x)) + (wrap64 (s * (rd l (i : Int)))))) (wrap64 (-s)) (by omega)
    refine ⟨r, Ev.step (fun k => ?_) ih⟩
    simp only [impl_valueAt.l0]
    rw [if_pos (by omega), if_pos (by omega), if_pos (by omega), wnat (by omega)]
/-- both polynomials' values are one, and there is one -/
theorem value_ev (l : List Int) (hb : l.length ≤ 1099511627776) (x : Int) : ∃ r, Ev (fun k => spec_l12Value.f k l x) r ∧ Ev (fun k => impl_valueAt.f k l x) r := by
  obtain ⟨r, h⟩ := valueAt_some l hb x l.length 0 1 (-1) (by omega)
  refine ⟨r, ?_, h⟩
  unfold spec_l12Value.f
  simp only [valueAt_same]
  exact h
theorem l1All_l0 (l : List Int) (lo hi : Int) (hb : l.length ≤ 1099511627776) : ∀ (d i : Nat), i + d = l.length →
    Ev (fun k => spec_l1All.l0 k lo hi l (l.length : Int) (i : Int)) ((l.drop i).all (inB lo hi))
  | 0, i, h => Ev.stepc (fun k => by
      simp only [spec_l1All.l0]
      rw [if_neg (by omega), List.drop_eq_nil_of_le (by omega)]
      rfl)
  | d + 1, i, h => by
    have ih := l1All_l0 l lo hi hb d (i + 1) (by omega)
    rw [drop_rd l i (by omega), List.all_cons]
    cases c : inB lo hi (rd l (i : Int)) with
    | false =>
      refine Ev.stepc (fun k => ?_)
      simp only [spec_l1All.l0]
      rw [if_pos (by omega), if_pos (by omega), if_pos (by omega), l1In_eq, c]
      simp
    | true =>
      refine Ev.step (fun k => ?_) ih
      simp only [spec_l1All.l0]
      rw [if_pos (by omega), if_pos (by omega), if_pos (by omega), l1In_eq, c, Option.bind_some, if_pos rfl, wnat (by omega)]
def sumsB (l : List Int) : Bool := decide ((l.length : Int) ≤ 4) && l.all (inB (-1000000000) 1000000000)
theorem numbers_ev (l : List Int) (hb : l.length ≤ 1099511627776) : Ev (fun k => spec_l12Numbers.f k l) (sumsB l) := by
  unfold spec_l12Numbers.f sumsB
  by_cases h : (l.length : Int) ≤ 4
  · simp only [if_pos h, decide_eq_true h, Bool.true_and]
    exact Ev.bind (l1All_l0 l _ _ hb l.length 0 (by omega)) (Ev.now _)
  · simp only [if_neg h, decide_eq_false h, Bool.false_and]
    exact Ev.now _
theorem areSums_eq (l : List Int) : impl_areSums.f l = some (sumsB l) := by
  unfold impl_areSums.f sumsB
  by_cases h : (l.length : Int) ≤ 4
  · simp only [if_pos h, decide_eq_true h, Bool.true_and, allO_within]
  · simp only [if_neg h, decide_eq_false h, Bool.false_and]

end Go.Proofs.Ytpdpbhjdelehmaa.Pure

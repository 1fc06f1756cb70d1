/- Plain lemmas on what the printed functions answer: numbers and lists alone. -/
import Derived.Test.YthhnmdemmogjaaaPHx3
import Derived.Test.YthhnmdemmogjaaaPHx4
import Derived.Test.YthhnmdemmogjaaaPHx5
import Derived.Test.YthhnmdemmogjaaaNums
namespace Go.Proofs.Ythhnmdemmogjaaa.Pure
open Go.RowKit Go.Proofs.Ythhnmdemmogjaaa.PH Go.Proofs.YthhnmdemmogjaaaW.PrintWords Go.Proofs.YthhnmdemmogjaaaW.PrintLast
set_option linter.unusedVariables false
set_option linter.unusedSimpArgs false

def inB (lo hi x : Int) : Bool := decide (lo ≤ x) && decide (x ≤ hi)
/-- whether numbers rise -/
def ris : List Int → Bool
  | [] => true
  | [_] => true
  | a :: b :: l => decide (a < b) && ris (b :: l)
theorem within_eq (x lo hi : Int) : impl_within.f x lo hi = some (inB lo hi x) := by
  unfold impl_within.f inB
  by_cases h : lo ≤ x <;> simp [h]
theorem l1In_eq (x lo hi : Int) : spec_l1In.f x lo hi = some (inB lo hi x) := by
  unfold spec_l1In.f inB
  by_cases h : lo ≤ x
  · simp [h]
  · have : ¬ (x ≥ lo) := h
    simp [this, h]
theorem wpred {i : Nat} (h : i ≤ 4611686018427387904) : wrap64 (((i + 1 : Nat) : Int) - 1) = (i : Int) := by
  rw [w64 (by omega) (by omega)]
  omega
theorem ris_drop (l : List Int) (j : Nat) (h : j + 1 < l.length) : ris (l.drop j) = (decide (rd l (j : Int) < rd l ((j + 1 : Nat) : Int)) && ris (l.drop (j + 1))) := by
  rw [drop_rd l j (by omega), drop_rd l (j + 1) h]
  rfl
theorem impl_ris_l0 (l : List Int) (hb : l.length ≤ 1099511627776) : ∀ (d j : Nat), j + 1 + d = l.length →
    Ev (fun k => impl_areRising.l0 k l ((j + 1 : Nat) : Int)) (ris (l.drop j))
  | 0, j, h => Ev.stepc (fun k => by
      simp only [impl_areRising.l0]
      rw [if_neg (by omega), drop_rd l j (by omega), List.drop_eq_nil_of_le (by omega)]
      rfl)
  | d + 1, j, h => by
    have ih := impl_ris_l0 l hb d (j + 1) (by omega)
    rw [ris_drop l j (by omega)]
    by_cases e : rd l ((j + 1 : Nat) : Int) ≤ rd l (j : Int)
    · refine Ev.stepc (fun k => ?_)
      simp only [impl_areRising.l0]
      have e2 : ¬ rd l (j : Int) < rd l ((j + 1 : Nat) : Int) := by omega
      rw [if_pos (by omega), if_pos (by omega), wpred (by omega), if_pos (by omega), if_pos (by omega), if_pos e, decide_eq_false e2]
      rfl
    · refine Ev.step (f := fun k => impl_areRising.l0 k l ((j + 1 + 1 : Nat) : Int)) (fun k => ?_) ?_
      · simp only [impl_areRising.l0]
        rw [if_pos (by omega), if_pos (by omega), wpred (by omega), if_pos (by omega), if_pos (by omega), if_neg e, wnat (by omega)]
      · have e2 : rd l (j : Int) < rd l ((j + 1 : Nat) : Int) := by omega
        rw [decide_eq_true e2, Bool.true_and]
        exact ih
theorem areRising_ev (l : List Int) (hb : l.length ≤ 1099511627776) : Ev (fun k => impl_areRising.f k l) (ris l) := by
  unfold impl_areRising.f
  cases l with
  | nil => exact Ev.stepc (fun k => by simp [impl_areRising.l0, ris])
  | cons a l => exact impl_ris_l0 (a :: l) hb l.length 0 (by simp; omega)
theorem spec_ris_l0 (l : List Int) (lo hi : Int) (hb : l.length ≤ 1099511627776) : ∀ (d j : Nat), j + 1 + d = l.length →
    Ev (fun k => spec_l1Rising.l0 k l lo hi l (l.length : Int) ((j + 1 : Nat) : Int)) ((l.drop (j + 1)).all (inB lo hi) && ris (l.drop j))
  | 0, j, h => Ev.stepc (fun k => by
      simp only [spec_l1Rising.l0]
      rw [if_neg (by omega), drop_rd l j (by omega), List.drop_eq_nil_of_le (by omega)]
      rfl)
  | d + 1, j, h => by
    have ih := spec_ris_l0 l lo hi hb d (j + 1) (by omega)
    rw [ris_drop l j (by omega), drop_rd l (j + 1) (by omega), List.all_cons]
    cases c : inB lo hi (rd l ((j + 1 : Nat) : Int)) with
    | false =>
      refine Ev.stepc (fun k => ?_)
      simp only [spec_l1Rising.l0]
      rw [if_pos (by omega), if_pos (by omega), if_pos (by omega), l1In_eq, c]
      simp
    | true =>
      by_cases e : rd l (j : Int) ≥ rd l ((j + 1 : Nat) : Int)
      · refine Ev.stepc (fun k => ?_)
        simp only [spec_l1Rising.l0]
        have e2 : ¬ rd l (j : Int) < rd l ((j + 1 : Nat) : Int) := by omega
        rw [if_pos (by omega), if_pos (by omega), if_pos (by omega), l1In_eq, c, Option.bind_some, if_pos rfl, if_pos (by omega), wpred (by omega), if_pos (by omega), if_pos (by omega), if_pos e, decide_eq_false e2]
        simp
      · refine Ev.step (f := fun k => spec_l1Rising.l0 k l lo hi l (l.length : Int) ((j + 1 + 1 : Nat) : Int)) (fun k => ?_) ?_
        · simp only [spec_l1Rising.l0]
          rw [if_pos (by omega), if_pos (by omega), if_pos (by omega), l1In_eq, c, Option.bind_some, if_pos rfl, if_pos (by omega), wpred (by omega), if_pos (by omega), if_pos (by omega), if_neg e, wnat (by omega)]
        · have e2 : rd l (j : Int) < rd l ((j + 1 : Nat) : Int) := by omega
          rw [decide_eq_true e2, Bool.true_and, Bool.true_and, ← drop_rd l (j + 1) (by omega)]
          exact ih
theorem l1Rising_ev (l : List Int) (lo hi : Int) (hb : l.length ≤ 1099511627776) : Ev (fun k => spec_l1Rising.f k l lo hi) (l.all (inB lo hi) && ris l) := by
  unfold spec_l1Rising.f
  cases l with
  | nil => exact Ev.stepc (fun k => by simp [spec_l1Rising.l0, ris])
  | cons a l =>
    have ih := spec_ris_l0 (a :: l) lo hi hb l.length 0 (by simp; omega)
    cases c : inB lo hi a with
    | false =>
      refine Ev.stepc (fun k => ?_)
      simp only [spec_l1Rising.l0]
      rw [if_pos (by simp <;> omega), if_pos (by omega), if_pos (by simp <;> omega), l1In_eq, show rd (a :: l) 0 = a from rfl, c]
      simp [c]
    | true =>
      refine Ev.step (f := fun k => spec_l1Rising.l0 k (a :: l) lo hi (a :: l) ((a :: l).length : Int) ((0 + 1 : Nat) : Int)) (fun k => ?_) ?_
      · simp only [spec_l1Rising.l0]
        rw [if_pos (by simp <;> omega), if_pos (by omega), if_pos (by simp <;> omega), l1In_eq, show rd (a :: l) 0 = a from rfl, c, Option.bind_some, if_pos rfl, if_neg (by omega), show wrap64 (0 + 1) = ((0 + 1 : Nat) : Int) from w64 (by omega) (by omega)]
      · rw [List.all_cons, c, Bool.true_and]
        exact ih
theorem allO_within (lo hi : Int) : ∀ l : List Int, allO (fun x => impl_within.f x lo hi) l = some (l.all (inB lo hi))
  | [] => rfl
  | x :: l => by
    simp only [allO, within_eq, Option.bind_some, List.all_cons]
    cases inB lo hi x with
    | true => simpa [within_eq] using allO_within lo hi l
    | false => rfl

end Go.Proofs.Ythhnmdemmogjaaa.Pure

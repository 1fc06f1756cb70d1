/- Plain lemmas on what the printed functions answer: numbers and lists alone. -/
import Derived.Test.YthhnmdemmogjaaaPHx0
import Derived.Test.YthhnmdemmogjaaaPHx5
import Derived.Test.YthhnmdemmogjaaaPHx7
import Derived.Test.YthhnmdemmogjaaaDirtyV
import Derived.Test.YthhnmdemmogjaaaSpecFinds
import Derived.Test.YthhnmdemmogjaaaImplFinds
namespace Go.Proofs.Ythhnmdemmogjaaa.Pure
open Go.RowKit Go.Proofs.Ythhnmdemmogjaaa.PH Go.Proofs.YthhnmdemmogjaaaW.PrintWords Go.Proofs.YthhnmdemmogjaaaW.PrintLast
set_option linter.unusedVariables false
set_option linter.unusedSimpArgs false

def dirtyInV (mark : Int) (l : List S51) : List Int × Bool := if (decide (0 ≤ findV mark l 0) && goodB l) = true then (dirtyV mark [] l, true) else ([], false)
theorem dirtyInV_len (mark : Int) (l : List S51) (hl : okL l) : (dirtyInV mark l).1.length ≤ 8388608 := by
  unfold dirtyInV
  cases c : decide (0 ≤ findV mark l 0) && goodB l with
  | false => simp
  | true =>
    rw [Bool.and_eq_true] at c
    obtain ⟨hg, _, h8⟩ := good_layers l hl c.2
    have := dirtyV_len mark l [] (fun y hy => (hg y hy).1.1)
    simp only [if_true, List.length_nil] at this ⊢
    omega
theorem specDirtyIn_ev (mark : Int) (l : List S51) (hl : okL l) : Ev (fun k => spec_DirtyIn.f k l mark) (dirtyInV mark l) := by
  unfold spec_DirtyIn.f dirtyInV
  refine Ev.bind (specGood_ev l hl) ?_
  cases c : goodB l with
  | false => simpa using Ev.now (([] : List Int), false)
  | true =>
    obtain ⟨hg, _, h8⟩ := good_layers l hl c
    simp only [if_true, Bool.and_true]
    refine Ev.bind (specFind_ev mark l hl.1) ?_
    by_cases c2 : findV mark l 0 < 0
    · have c3 : ¬ 0 ≤ findV mark l 0 := by omega
      simp only [if_pos c2, decide_eq_false c3]
      simpa using Ev.now (([] : List Int), false)
    · have c3 : 0 ≤ findV mark l 0 := by omega
      simp only [if_neg c2, decide_eq_true c3, if_true]
      exact Ev.bind (specDirty_ev mark l h8 (fun y hy => (hg y hy).1.1)) (Ev.now _)
theorem good_ris (l : List S51) (h : goodB l = true) : ris (l.map (·.f0)) = true := by
  unfold goodB at h
  simp only [Bool.and_eq_true] at h
  exact h.2.2
theorem implDirtyIn_ev (mark : Int) (l : List S51) (hl : okL l) : Ev (fun k => impl_DirtyIn.f k l mark) (dirtyInV mark l) := by
  unfold impl_DirtyIn.f dirtyInV
  refine Ev.bind (implFind_ev mark l hl) ?_
  cases c : decide (0 ≤ findV mark l 0) && goodB l with
  | false => simpa using Ev.now (([] : List Int), false)
  | true =>
    rw [Bool.and_eq_true, decide_eq_true_eq] at c
    obtain ⟨j, hj⟩ := Int.eq_ofNat_of_zero_le c.1
    obtain ⟨hg, _, h8⟩ := good_layers l hl c.2
    have hb := findV_bd mark l 0
    rw [hj] at hb
    have e : wrap64 (findV mark l 0 + 1) = ((j + 1 : Nat) : Int) := by rw [hj]; exact wnat (by omega)
    have h1 : (0 : Int) ≤ ((j + 1 : Nat) : Int) := by omega
    have h2 : ((j + 1 : Nat) : Int) ≤ (l.length : Int) := by omega
    simp only [if_true, e, if_pos h1, if_pos h2, Int.toNat_natCast, dirty_eq mark l h8 (fun y hy => (hg y hy).1.1) (good_ris l c.2) j hj, Option.bind_some]
    exact Ev.now _

end Go.Proofs.Ythhnmdemmogjaaa.Pure

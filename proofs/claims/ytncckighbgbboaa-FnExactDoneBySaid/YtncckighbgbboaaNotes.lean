/- Plain lemmas on what the printed functions answer: numbers and lists alone. -/
import Derived.Test.YtncckighbgbboaaPGx0
import Derived.Test.YtncckighbgbboaaPGx2
import Derived.Test.YtncckighbgbboaaPGx3
import Derived.Test.YtncckighbgbboaaNoteS
import Derived.Test.YtncckighbgbboaaSteps
namespace Go.Proofs.Ytncckighbgbboaa.Pure
open Go.RowKit Go.Proofs.Ytncckighbgbboaa.PG Go.Proofs.YtncckighbgbboaaW.PrintWords Go.Proofs.YtncckighbgbboaaW.PrintLast
set_option linter.unusedVariables false
set_option linter.unusedSimpArgs false

abbrev W := S90
def inB (a b c : Int) : Bool := decide (b ≤ a) && decide (a ≤ c)
theorem in_eq (a b c : Int) : spec_l1In.f a b c = some (inB a b c) := by
  unfold spec_l1In.f inB
  by_cases h : a ≥ b
  · rw [if_pos h, decide_eq_true (show b ≤ a from h)]; simp
  · rw [if_neg h, decide_eq_false (show ¬ b ≤ a from h)]; simp
theorem within_eq (a b c : Int) : impl_within.f a b c = some (inB a b c) := in_eq a b c
theorem andIf (p q : Bool) : (if p = true then some q else some false) = some (p && q) := by cases p <;> rfl
def zeroB (z : W) : Bool := z.f2 == 0 && (z.f3 == 0 && (z.f4 == 0))
def noteB (z : W) : Bool := if z.f0 = 2 then inB z.f1 1 9 && (inB z.f2 0 5 && (inB z.f3 0 1000 && inB z.f4 0 1000)) else inB z.f0 1 4 && (inB z.f1 1 9 && zeroB z)
theorem zero_eq (z : W) : (if z.f2 = 0 then (if z.f3 = 0 then (some (z.f4 == 0)) else (some false)) else (some false)) = some (zeroB z) := by
  unfold zeroB
  by_cases h : z.f2 = 0
  · by_cases h2 : z.f3 = 0
    · simp [h, h2]
    · simp [h, h2]
  · simp [h]
theorem specNote (z : W) : spec_l14Note.f z.f0 z.f1 z.f2 z.f3 z.f4 = some (noteB z) := by
  unfold spec_l14Note.f noteB
  simp only [in_eq, Option.bind_some, andIf, zero_eq]
  by_cases h2 : z.f0 = 2
  · simp only [if_pos h2, andIf]
  · simp only [if_neg h2]
    by_cases h1 : z.f0 = 1
    · have : inB z.f0 1 4 = true := by rw [h1]; rfl
      simp only [if_pos h1, this, Bool.true_and, andIf]
    · by_cases h3 : z.f0 = 3
      · have : inB z.f0 1 4 = true := by rw [h3]; rfl
        simp only [if_neg h1, if_pos h3, this, Bool.true_and, andIf]
      · by_cases h4 : z.f0 = 4
        · have : inB z.f0 1 4 = true := by rw [h4]; rfl
          simp only [if_neg h1, if_neg h3, if_pos h4, this, Bool.true_and, andIf]
        · have : inB z.f0 1 4 = false := by
            unfold inB
            by_cases h5 : 1 ≤ z.f0
            · rw [decide_eq_true h5, decide_eq_false (by omega)]; rfl
            · rw [decide_eq_false h5]; rfl
          simp only [if_neg h1, if_neg h3, if_neg h4, this, Bool.false_and, andIf, Bool.and_false]
theorem implNote (z : W) : impl_isNote.f z.f0 z.f1 z.f2 z.f3 z.f4 = some (noteB z) := by
  unfold impl_isNote.f noteB impl_isWho.f impl_isCell.f impl_isValue.f
  simp only [within_eq, Option.bind_some, andIf]
  by_cases h2 : z.f0 = 2
  · simp only [if_pos h2]
  · simp only [if_neg h2]
    rfl
theorem implNotes : ∀ l : List W, areAllOf_impl_isNote.f l = some (l.all noteB)
  | [] => rfl
  | z :: l => by
    have ih := implNotes l
    unfold areAllOf_impl_isNote.f at ih ⊢
    rw [allO, implNote, Option.bind_some, List.all_cons]
    cases noteB z with
    | true => rw [if_pos rfl, Bool.true_and]; exact ih
    | false => rfl

end Go.Proofs.Ytncckighbgbboaa.Pure

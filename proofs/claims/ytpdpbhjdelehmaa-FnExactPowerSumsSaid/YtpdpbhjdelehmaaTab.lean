/- Plain lemmas on what the printed functions answer: numbers and lists alone. -/
import Derived.Test.YtpdpbhjdelehmaaPAx0
import Derived.Test.YtpdpbhjdelehmaaNums
namespace Go.Proofs.Ytpdpbhjdelehmaa.Pure
open Go.RowKit Go.Proofs.Ytpdpbhjdelehmaa.PA Go.Proofs.YtpdpbhjdelehmaaW.PrintWords Go.Proofs.YtpdpbhjdelehmaaW.PrintLast
set_option linter.unusedVariables false
set_option linter.unusedSimpArgs false

/-- the list of g's first m values -/
def tab (g : Nat → Int) (m : Nat) : List Int := (List.range m).map g
theorem tab_len (g : Nat → Int) (m : Nat) : (tab g m).length = m := by simp [tab]
theorem tab_congr {g g' : Nat → Int} {m : Nat} (h : ∀ i, i < m → g i = g' i) : tab g m = tab g' m := by
  unfold tab
  exact List.map_congr_left fun i hi => h i (List.mem_range.1 hi)
theorem tab_rd (g : Nat → Int) (m j : Nat) (h : j < m) : rd (tab g m) (j : Int) = g j := by
  rw [rd_nat]
  simp [tab, List.getD_eq_getElem?_getD, h]
theorem tab_set (g : Nat → Int) (m j : Nat) (v : Int) : (tab g m).set j v = tab (fun i => if i = j then v else g i) m := by
  apply List.ext_getElem?
  intro i
  unfold tab
  by_cases h : i < m
  · by_cases e : i = j
    · subst e
      simp [List.getElem?_set, h]
    · simp [List.getElem?_set, h, e, Ne.symm e]
  · simp [List.getElem?_set, h]
theorem tab_rep (m : Nat) : List.replicate m (0 : Int) = tab (fun _ => 0) m := by
  apply List.ext_getElem?
  intro i
  unfold tab
  by_cases h : i < m <;> simp [h, List.getElem?_replicate]
theorem tab_snoc (g : Nat → Int) (m : Nat) : tab g (m + 1) = tab g m ++ [g m] := by
  simp [tab, List.range_succ]
theorem tab_of (l : List Int) : tab (fun i => rd l (i : Int)) l.length = l := by
  apply List.ext_getElem?
  intro i
  unfold tab
  by_cases h : i < l.length
  · simp [h, rd_nat, List.getD_eq_getElem?_getD]
  · simp [h]

end Go.Proofs.Ytpdpbhjdelehmaa.Pure

/- Plain lemmas on what the printed functions answer: numbers and lists alone. -/
import Derived.Test.YthhnmdemmogjaaaPHx0
import Derived.Test.YthhnmdemmogjaaaGoods
import Derived.Test.YthhnmdemmogjaaaAtV
namespace Go.Proofs.Ythhnmdemmogjaaa.Pure
open Go.RowKit Go.Proofs.Ythhnmdemmogjaaa.PH Go.Proofs.YthhnmdemmogjaaaW.PrintWords Go.Proofs.YthhnmdemmogjaaaW.PrintLast
set_option linter.unusedVariables false
set_option linter.unusedSimpArgs false

theorem good_layers (l : List S51) (hl : okL l) (h : goodB l = true) : (∀ y ∈ l, goodL y) ∧ 1 ≤ l.length ∧ l.length ≤ 8 := by
  unfold goodB at h
  simp only [Bool.and_eq_true] at h
  obtain ⟨h1, h2, _⟩ := h
  have h3 : 1 ≤ (l.length : Int) ∧ (l.length : Int) ≤ 8 := by simpa [inB] using h1
  refine ⟨fun y hy => ?_, by omega, by omega⟩
  have h4 := List.all_eq_true.1 h2 y hy
  unfold layerB at h4
  simp only [Bool.and_eq_true] at h4
  obtain ⟨_, h5, _, h6, _⟩ := h4
  refine ⟨⟨(hl.2 y hy).1, ?_⟩, fun x hx => ?_⟩
  · have := beq_iff_eq.mp h6
    omega
  · have := List.all_eq_true.1 h5 x hx
    simpa [inB] using this

end Go.Proofs.Ythhnmdemmogjaaa.Pure

/- Plain lemmas on what the printed functions answer: numbers and lists alone. -/
import Derived.Test.YthhnmdemmogjaaaPHx0
import Derived.Test.YthhnmdemmogjaaaPHx2
import Derived.Test.YthhnmdemmogjaaaPHx3
import Derived.Test.YthhnmdemmogjaaaLayerNums
import Derived.Test.YthhnmdemmogjaaaEqInts
import Derived.Test.YthhnmdemmogjaaaEqStrings
namespace Go.Proofs.Ythhnmdemmogjaaa.Pure
open Go.RowKit Go.Proofs.Ythhnmdemmogjaaa.PH Go.Proofs.YthhnmdemmogjaaaW.PrintWords Go.Proofs.YthhnmdemmogjaaaW.PrintLast
set_option linter.unusedVariables false
set_option linter.unusedSimpArgs false

/-- lists in a layer are not too long -/
def smallL (x : S51) : Prop := x.f1.length ≤ 1048576 ∧ x.f2.length ≤ 1048576
theorem eqLayerS_l0 (a : List S51) (hb : a.length ≤ 1048576) (hs : ∀ x ∈ a, smallL x) : ∀ (d i : Nat), i + d = a.length →
    Ev (fun k => laws_eqLayerS.l0 k a a (i : Int)) true
  | 0, i, h => Ev.stepc (fun k => by
      simp only [laws_eqLayerS.l0]
      rw [if_neg (by omega)])
  | d + 1, i, h => by
    have hx := hs _ (mem_rdL a i (by omega))
    have h1 := eqIntS_self (rd_T51 a (i : Int)).f1 (by have := hx.1; omega)
    have h2 := eqStringS_self (rd_T51 a (i : Int)).f2 (by have := hx.2; omega)
    have hl : Ev (fun k => laws_eqLayer.f k (rd_T51 a (i : Int)).f0 (rd_T51 a (i : Int)).f1 (rd_T51 a (i : Int)).f2 (rd_T51 a (i : Int)).f0 (rd_T51 a (i : Int)).f1 (rd_T51 a (i : Int)).f2) true := by
      unfold laws_eqLayer.f
      simp only [if_true]
      refine Ev.bind h1 ?_
      simp only [if_true]
      refine Ev.bind h2 ?_
      simp only [if_true]
      exact Ev.now true
    have ih := eqLayerS_l0 a hb hs d (i + 1) (by omega)
    refine Ev.step (f := fun k => (laws_eqLayer.f k (rd_T51 a (i : Int)).f0 (rd_T51 a (i : Int)).f1 (rd_T51 a (i : Int)).f2 (rd_T51 a (i : Int)).f0 (rd_T51 a (i : Int)).f1 (rd_T51 a (i : Int)).f2).bind fun t156 => (if t156 = true then (laws_eqLayerS.l0 k a a ((i + 1 : Nat) : Int)) else (some false))) (fun k => ?_) (Ev.bind hl ?_)
    · simp only [laws_eqLayerS.l0]
      rw [if_pos (by omega), if_pos (by omega), if_pos (by omega), wnat (by omega)]
    · simpa using ih
theorem eqMarks_self (a : List S51) (hb : a.length ≤ 1048576) (hs : ∀ x ∈ a, smallL x) : Ev (fun k => laws_eqMarks.f k a a) true := by
  unfold laws_eqMarks.f laws_eqLayerS.f
  simp only [if_true]
  refine Ev.bind (eqLayerS_l0 a hb hs a.length 0 (by omega)) ?_
  simp only [if_true]
  exact Ev.now true

end Go.Proofs.Ythhnmdemmogjaaa.Pure

/- The program's DirtyIn returns what the reference's returns: for all arguments, with no condition. -/
import Derived.Test.YthhnmdemmogjaaaPHx2
import Derived.Test.YthhnmdemmogjaaaPHx8
import Derived.Test.YthhnmdemmogjaaaDirtyInV
import Derived.Test.YthhnmdemmogjaaaOkCv
import Derived.Test.YthhnmdemmogjaaaSzLayers
import Derived.Test.YthhnmdemmogjaaaEqLayers
import Derived.Test.YthhnmdemmogjaaaEqInts
import Derived.Test.YthhnmdemmogjaaaHeldInts
import Derived.Test.YthhnmdemmogjaaaMarkLayers
namespace Go.Proofs.Ythhnmdemmogjaaa.Pure
open Go.RowKit Go.Proofs.Ythhnmdemmogjaaa.PH Go.Proofs.YthhnmdemmogjaaaW.PrintWords Go.Proofs.YthhnmdemmogjaaaW.PrintLast
set_option linter.unusedVariables false
set_option linter.unusedSimpArgs false

theorem FnExactDirtyIn : laws_FnExactDirtyIn.Pure := by
  intro a mark ⟨ha, hwa⟩ _
  suffices h : Ev (fun k => laws_FnExactDirtyIn.f k a mark) true from h.rounds
  unfold laws_FnExactDirtyIn.f
  obtain ⟨r, hr, hr1, hr2⟩ := szMarks_ev a ha hwa 1048576 (by omega) (by omega)
  refine Ev.bind hr ?_
  by_cases c1 : r < 0
  · simp only [if_pos c1]
    exact Ev.now true
  · simp only [if_neg c1]
    have sa := hr2 (by omega)
    have ta := toMarks_ev a sa.1 sa.2
    have oa := okL_cv a sa
    have h1 := specDirtyIn_ev mark (a.map cvL) oa
    have h2 := implDirtyIn_ev mark (a.map cvL) oa
    have ln := dirtyInV_len mark (a.map cvL) oa
    generalize dirtyInV mark (a.map cvL) = P at h1 h2 ln
    obtain ⟨L, b⟩ := P
    dsimp only at ln
    have e1 := eqIntS_self L (by omega)
    have e2 := eqMarks_self (a.map cvL) oa.1 oa.2
    obtain ⟨km, hm, hm0⟩ := markMarks_ev (a.map cvL) oa.1 oa.2
    have m1 := markIntS_ev L 1 (by omega) (by omega) (by omega)
    have m2 := heldIntS_ev L.length 1 (by omega) (by omega) (by omega)
    have n : ¬ (1 + (L.length : Int) < 0) := by omega
    have j2 : Ev (fun k => laws_FnExactDirtyIn.j2 k (upFrom 1 L.length) (1 + (L.length : Int)) false) true := by
      refine Ev.step (fun k => by rw [laws_FnExactDirtyIn.j2]) ?_
      simp only [Bool.false_eq_true, if_false]
      refine Ev.bind m2 ?_
      simp only [if_neg n, if_true]
      exact Ev.now true
    have j1 : Ev (fun k => laws_FnExactDirtyIn.j1 k mark L b L false a) true := by
      refine Ev.step (fun k => by rw [laws_FnExactDirtyIn.j1]) ?_
      simp only [Bool.false_eq_true, if_false]
      refine Ev.bind m1 (Ev.bind m2 ?_)
      simp only [if_neg n, if_true]
      refine Ev.bind ta (Ev.bind h2 (Ev.bind e1 ?_))
      simp only [if_true, bne_self_eq_false]
      exact j2
    have j0 : Ev (fun k => laws_FnExactDirtyIn.j0 k mark L b L b false a (a.map cvL)) true := by
      refine Ev.step (fun k => by rw [laws_FnExactDirtyIn.j0]) ?_
      simp only [Bool.false_eq_true, if_false]
      refine Ev.bind ta (Ev.bind e2 ?_)
      simp only [if_true]
      refine Ev.bind hm ?_
      rw [show (fun k => if km < 0 then laws_FnExactDirtyIn.j1 k mark L b L true a else (laws_eqIntS.f k L L).bind fun t291 => if t291 = true then laws_FnExactDirtyIn.j1 k mark L b L (b != b) a else laws_FnExactDirtyIn.j1 k mark L b L true a) = fun k => (laws_eqIntS.f k L L).bind fun t291 => if t291 = true then laws_FnExactDirtyIn.j1 k mark L b L (b != b) a else laws_FnExactDirtyIn.j1 k mark L b L true a from by funext k; rw [if_neg (by omega)]]
      refine Ev.bind e1 ?_
      simp only [if_true, bne_self_eq_false]
      exact j1
    refine Ev.bind ta (Ev.bind h1 (Ev.bind ta (Ev.bind h2 (Ev.bind e1 ?_))))
    simp only [if_true, bne_self_eq_false]
    exact j0

end Go.Proofs.Ythhnmdemmogjaaa.Pure

/- The program's DoneBy returns what the reference's returns: for all arguments, with no condition. -/
import Derived.Test.YtncckighbgbboaaPGx4
import Derived.Test.YtncckighbgbboaaPGx5
import Derived.Test.YtncckighbgbboaaDoneV
import Derived.Test.YtncckighbgbboaaSzNotes
import Derived.Test.YtncckighbgbboaaEqInts
import Derived.Test.YtncckighbgbboaaHeldInts
import Derived.Test.YtncckighbgbboaaMarkNotes
namespace Go.Proofs.Ytncckighbgbboaa.Pure
open Go.RowKit Go.Proofs.Ytncckighbgbboaa.PG Go.Proofs.YtncckighbgbboaaW.PrintWords Go.Proofs.YtncckighbgbboaaW.PrintLast
set_option linter.unusedVariables false
set_option linter.unusedSimpArgs false

theorem FnExactDoneBy : laws_FnExactDoneBy.Pure := by
  intro a ⟨ha, _⟩
  suffices h : Ev (fun k => laws_FnExactDoneBy.f k a) true from h.rounds
  unfold laws_FnExactDoneBy.f
  obtain ⟨r, hr, hr2⟩ := szN a ha 1048576 (by omega) (by omega)
  rw [hr]
  simp only [Option.bind_some]
  by_cases c1 : r < 0
  · simp only [if_pos c1]
    exact Ev.now true
  · simp only [if_neg c1]
    have sa := (hr2 (by omega)).1
    have ta := toNoteS_ev a (by omega)
    have h1 := specDone_ev (a.map cvNote)
    have h2 := implDone_ev (a.map cvNote)
    have ln := doneV_len (a.map cvNote)
    generalize doneV (a.map cvNote) = P at h1 h2 ln
    obtain ⟨L, b⟩ := P
    dsimp only at ln
    have e1 := eqIntS_self L (by omega)
    have e2 := eqNoteS_self (a.map cvNote) (by rw [List.length_map]; omega)
    obtain ⟨km, hm, hm0⟩ := markNoteS_ev (a.map cvNote) (by rw [List.length_map]; omega)
    have m1 := markIntS_ev L 1 (by omega) (by omega) (by omega)
    have m2 := heldIntS_ev L.length 1 (by omega) (by omega) (by omega)
    have n : ¬ (1 + (L.length : Int) < 0) := by omega
    have j2 : Ev (fun k => laws_FnExactDoneBy.j2 k (upFrom 1 L.length) (1 + (L.length : Int)) false) true := by
      refine Ev.step (fun k => by rw [laws_FnExactDoneBy.j2]) ?_
      simp only [Bool.false_eq_true, if_false]
      refine Ev.bind m2 ?_
      simp only [if_neg n, if_true]
      exact Ev.now true
    have j1 : Ev (fun k => laws_FnExactDoneBy.j1 k a L b L false) true := by
      refine Ev.step (fun k => by rw [laws_FnExactDoneBy.j1]) ?_
      simp only [Bool.false_eq_true, if_false]
      refine Ev.bind m1 (Ev.bind m2 ?_)
      simp only [if_neg n, if_true]
      refine Ev.bind ta (Ev.bind h2 (Ev.bind e1 ?_))
      simp only [if_true, bne_self_eq_false]
      exact j2
    have j0 : Ev (fun k => laws_FnExactDoneBy.j0 k a L b (a.map cvNote) L b false) true := by
      refine Ev.step (fun k => by rw [laws_FnExactDoneBy.j0]) ?_
      simp only [Bool.false_eq_true, if_false]
      refine Ev.bind ta (Ev.bind e2 ?_)
      simp only [if_true]
      refine Ev.bind hm ?_
      rw [show (fun k => if km.1 < 0 then laws_FnExactDoneBy.j1 k a L b L true else (laws_eqIntS.f k L L).bind fun t225 => if t225 = true then laws_FnExactDoneBy.j1 k a L b L (b != b) else laws_FnExactDoneBy.j1 k a L b L true) = fun k => (laws_eqIntS.f k L L).bind fun t225 => if t225 = true then laws_FnExactDoneBy.j1 k a L b L (b != b) else laws_FnExactDoneBy.j1 k a L b L true from by funext k; rw [if_neg (by omega)]]
      refine Ev.bind e1 ?_
      simp only [if_true, bne_self_eq_false]
      exact j1
    refine Ev.bind ta (Ev.bind h1 (Ev.bind ta (Ev.bind h2 (Ev.bind e1 ?_))))
    simp only [if_true, bne_self_eq_false]
    exact j0

end Go.Proofs.Ytncckighbgbboaa.Pure

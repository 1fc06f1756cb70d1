/- Plain lemmas on what the printed functions answer: numbers and lists alone. -/
import Derived.Test.YtlfgkodipeofiaaPRx2
import Derived.Test.YtlfgkodipeofiaaNums
namespace Go.Proofs.Ytlfgkodipeofiaa.Pure
open Go.RowKit Go.Proofs.Ytlfgkodipeofiaa.PR Go.Proofs.YtlfgkodipeofiaaW.PrintWords Go.Proofs.YtlfgkodipeofiaaW.PrintLast
set_option linter.unusedVariables false
set_option linter.unusedSimpArgs false

theorem sameInts_l0 (a : List Int) (hb : a.length ≤ 1099511627776) : ∀ (d i : Nat), i + d = a.length → Ev (fun k => laws_sameInts.l0 k a a (a.length : Int) (i : Int)) true
  | 0, i, h => Ev.stepc (fun k => by
      simp only [laws_sameInts.l0]
      rw [if_neg (by omega)])
  | d + 1, i, h => by
    refine Ev.step (fun k => ?_) (sameInts_l0 a hb d (i + 1) (by omega))
    simp only [laws_sameInts.l0]
    rw [if_pos (by omega), if_pos (by omega), if_pos (by omega), if_pos (by omega), wnat (by omega)]
    simp
theorem sameInts_self (a : List Int) (hb : a.length ≤ 1099511627776) : Ev (fun k => laws_sameInts.f k a a) true := by
  unfold laws_sameInts.f
  simp only [if_true]
  exact sameInts_l0 a hb a.length 0 (by omega)

end Go.Proofs.Ytlfgkodipeofiaa.Pure

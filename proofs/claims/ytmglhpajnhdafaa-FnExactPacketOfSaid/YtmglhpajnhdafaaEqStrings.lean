/- Plain lemmas on what the printed functions answer: numbers and lists alone. -/
import Derived.Test.YtmglhpajnhdafaaPPx3
import Derived.Test.YtmglhpajnhdafaaStringS
namespace Go.Proofs.Ytmglhpajnhdafaa.Pure
open Go.RowKit Go.Proofs.Ytmglhpajnhdafaa.PP Go.Proofs.YtmglhpajnhdafaaW.PrintWords Go.Proofs.YtmglhpajnhdafaaW.PrintLast
set_option linter.unusedVariables false
set_option linter.unusedSimpArgs false

theorem eqStringS_l0 (a : List ByteArray) (hb : a.length ≤ 1099511627776) : ∀ (d i : Nat), i + d = a.length →
    Ev (fun k => laws_eqStringS.l0 k a a (i : Int)) true
  | 0, i, h => Ev.stepc (fun k => by
      simp only [laws_eqStringS.l0]
      rw [if_neg (by omega)])
  | d + 1, i, h => by
    refine Ev.step (fun k => ?_) (eqStringS_l0 a hb d (i + 1) (by omega))
    simp only [laws_eqStringS.l0]
    rw [if_pos (by omega), if_pos (by omega), if_pos (by omega), if_pos trivial, wnat (by omega)]
theorem eqStringS_self (a : List ByteArray) (hb : a.length ≤ 1099511627776) : Ev (fun k => laws_eqStringS.f k a a) true := by
  unfold laws_eqStringS.f
  simp only [if_true]
  exact eqStringS_l0 a hb a.length 0 (by omega)

end Go.Proofs.Ytmglhpajnhdafaa.Pure

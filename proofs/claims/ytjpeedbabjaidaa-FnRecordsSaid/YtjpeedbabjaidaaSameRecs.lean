/- Plain lemmas on what the printed functions answer: numbers and lists alone. -/
import Derived.Test.YtjpeedbabjaidaaPRx10
import Derived.Test.YtjpeedbabjaidaaAlls
namespace Go.Proofs.Ytjpeedbabjaidaa.Pure
open Go.RowKit Go.Proofs.Ytjpeedbabjaidaa.PR Go.Proofs.YtjpeedbabjaidaaW.PrintWords Go.Proofs.YtjpeedbabjaidaaW.PrintLast
set_option linter.unusedVariables false
set_option linter.unusedSimpArgs false

theorem recs_l0 (a : List Q) (hb : a.length ≤ 1099511627776) : ∀ (d i : Nat), i + d = a.length → Ev (fun k => laws_sameRecords.l0 k a a (a.length : Int) (i : Int)) true
  | 0, i, h => Ev.stepc (fun k => by
      simp only [laws_sameRecords.l0]
      rw [if_neg (by omega)])
  | d + 1, i, h => by
    refine Ev.step (fun k => ?_) (recs_l0 a hb d (i + 1) (by omega))
    simp only [laws_sameRecords.l0]
    rw [if_pos (by omega), if_pos (by omega), if_pos (by omega), if_pos (by omega), wnat (by omega)]
    simp
theorem recs_self (a : List Q) (hb : a.length ≤ 1099511627776) : Ev (fun k => laws_sameRecords.f k a a) true := by
  unfold laws_sameRecords.f
  simp only [if_true]
  exact recs_l0 a hb a.length 0 (by omega)

end Go.Proofs.Ytjpeedbabjaidaa.Pure

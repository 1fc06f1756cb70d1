/- Plain lemmas on what the printed functions answer: numbers and lists alone. -/
import Derived.Test.YtjpeedbabjaidaaPLx1
import Derived.Test.YtjpeedbabjaidaaDraws
namespace Go.Proofs.Ytjpeedbabjaidaa.Pure
open Go.RowKit Go.Proofs.Ytjpeedbabjaidaa.PL Go.Proofs.YtjpeedbabjaidaaW.PrintWords Go.Proofs.YtjpeedbabjaidaaW.PrintLast
set_option linter.unusedVariables false
set_option linter.unusedSimpArgs false

theorem one_ev (l : List Int) (hl : ∀ x ∈ l, 0 ≤ x ∧ x ≤ 255) (p : Int) (h0 : 0 ≤ p) (h1 : p ≤ 4611686018427387000) (sd n : Int) (hn : 1 ≤ n) : ∃ x q s, spec_l1Cur_one.f l p sd n = some (x, q, s) ∧ p ≤ q ∧ q ≤ p + 2 := by
  unfold spec_l1Cur_one.f
  obtain ⟨x, q, s, e, h2, h3, h4⟩ := pick_ev l hl p h0 h1 sd n hn
  rw [e, Option.bind_some]
  exact ⟨_, _, _, rfl, h4⟩

end Go.Proofs.Ytjpeedbabjaidaa.Pure

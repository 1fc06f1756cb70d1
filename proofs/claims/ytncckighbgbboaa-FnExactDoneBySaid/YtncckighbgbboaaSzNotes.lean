/- Plain lemmas on what the printed functions answer: numbers and lists alone. -/
import Derived.Test.YtncckighbgbboaaPGx0
import Derived.Test.YtncckighbgbboaaPGx2
import Derived.Test.YtncckighbgbboaaNums
namespace Go.Proofs.Ytncckighbgbboaa.Pure
open Go.RowKit Go.Proofs.Ytncckighbgbboaa.PG Go.Proofs.YtncckighbgbboaaW.PrintWords Go.Proofs.YtncckighbgbboaaW.PrintLast
set_option linter.unusedVariables false
set_option linter.unusedSimpArgs false

theorem szN (l : List (S116)) (hm : l.length ≤ maxLen) (m : Int) (h0 : 0 ≤ m) (h1 : m ≤ 1048576) : ∃ r, laws_szNoteS.f l m = some r ∧ (0 ≤ r → l.length ≤ 1048576 ∧ r ≤ 1048576) := by
  unfold maxLen at hm
  unfold laws_szNoteS.f
  rw [w64 (by omega) (by omega)]
  by_cases c : m - (l.length : Int) < 0
  · exact ⟨-1, if_pos c, fun h => by omega⟩
  · exact ⟨m - (l.length : Int), if_neg c, fun h => by omega⟩

end Go.Proofs.Ytncckighbgbboaa.Pure

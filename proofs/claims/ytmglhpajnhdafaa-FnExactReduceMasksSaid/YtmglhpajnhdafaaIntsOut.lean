/- Plain lemmas on what the printed functions answer: numbers and lists alone. -/
import Derived.Test.YtmglhpajnhdafaaPQx0
import Derived.Test.YtmglhpajnhdafaaToInts
import Derived.Test.YtmglhpajnhdafaaEqInts
import Derived.Test.YtmglhpajnhdafaaHeldInts
namespace Go.Proofs.Ytmglhpajnhdafaa.Pure
open Go.RowKit Go.Proofs.Ytmglhpajnhdafaa.PQ Go.Proofs.YtmglhpajnhdafaaW.PrintWords Go.Proofs.YtmglhpajnhdafaaW.PrintLast
set_option linter.unusedVariables false
set_option linter.unusedSimpArgs false

theorem neg_len (L : List Int) : ¬ ((1 : Int) + (L.length : Int) < 0) := by omega

end Go.Proofs.Ytmglhpajnhdafaa.Pure

/- Plain lemmas on what the printed functions answer: numbers and lists alone. -/
import Derived.Test.YtpdpbhjdelehmaaPDx0
import Derived.Test.YtpdpbhjdelehmaaToInts
import Derived.Test.YtpdpbhjdelehmaaEqInts
import Derived.Test.YtpdpbhjdelehmaaHeldInts
namespace Go.Proofs.Ytpdpbhjdelehmaa.Pure
open Go.RowKit Go.Proofs.Ytpdpbhjdelehmaa.PD Go.Proofs.YtpdpbhjdelehmaaW.PrintWords Go.Proofs.YtpdpbhjdelehmaaW.PrintLast
set_option linter.unusedVariables false
set_option linter.unusedSimpArgs false

theorem neg_len (L : List Int) : ¬ ((1 : Int) + (L.length : Int) < 0) := by omega

end Go.Proofs.Ytpdpbhjdelehmaa.Pure

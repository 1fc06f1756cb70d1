/- The program's NewWorks returns what the reference's returns. -/
import Derived.Test.YtncckighbgbboaaPAx4
namespace Go.Proofs.Ytncckighbgbboaa.Pure
open Go.RowKit Go.Proofs.Ytncckighbgbboaa.PA Go.Proofs.YtncckighbgbboaaW.PrintWords Go.Proofs.YtncckighbgbboaaW.PrintLast
set_option linter.unusedVariables false
set_option linter.unusedSimpArgs false

theorem FnExactNewWorks : laws_FnExactNewWorks.Pure := ⟨40, by kernel_rfl⟩

end Go.Proofs.Ytncckighbgbboaa.Pure

/- Plain lemmas on what the printed functions answer: numbers and lists alone. -/
import Derived.Test.YtlfgkodipeofiaaPFx0
import Derived.Test.YtlfgkodipeofiaaNums
import Derived.Lib.Strings
namespace Go.Proofs.Ytlfgkodipeofiaa.Pure
open Go.RowKit Go.Proofs.Ytlfgkodipeofiaa.PF Go.Proofs.YtlfgkodipeofiaaW.PrintWords Go.Proofs.YtlfgkodipeofiaaW.PrintLast
set_option linter.unusedVariables false
set_option linter.unusedSimpArgs false

theorem bytes_nil (s : ByteArray) (h : s.toList = ([] : List UInt8)) : s.size = 0 := by
  have := Lib.toList_data s
  rw [h] at this
  have h2 : s.data.toList.length = 0 := by rw [← this]; rfl
  simpa using h2
theorem size_nil (s : ByteArray) (h : s.size = 0) : s.toList = ([] : List UInt8) := by
  rw [Lib.toList_data]
  exact List.eq_nil_of_length_eq_zero (by simpa using h)

end Go.Proofs.Ytlfgkodipeofiaa.Pure

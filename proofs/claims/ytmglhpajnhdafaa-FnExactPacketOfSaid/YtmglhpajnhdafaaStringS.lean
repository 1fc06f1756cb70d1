/- Plain lemmas on what the printed functions answer: numbers and lists alone. -/
import Derived.Test.YtmglhpajnhdafaaPPx0
import Derived.Test.YtmglhpajnhdafaaNums
import Derived.Test.YtmglhpajnhdafaaSteps
import Derived.Lib.Strings
namespace Go.Proofs.Ytmglhpajnhdafaa.Pure
open Go.RowKit Go.Proofs.Ytmglhpajnhdafaa.PP Go.Proofs.YtmglhpajnhdafaaW.PrintWords Go.Proofs.YtmglhpajnhdafaaW.PrintLast
set_option linter.unusedVariables false
set_option linter.unusedSimpArgs false

theorem rdT_nat (l : List ByteArray) (i : Nat) : rdOf ByteArray.empty l (i : Int) = l.getD i ByteArray.empty := rfl
theorem drop_rdT (l : List ByteArray) (i : Nat) (h : i < l.length) : l.drop i = rdOf ByteArray.empty l (i : Int) :: l.drop (i + 1) := by
  rw [List.drop_eq_getElem_cons h, rdT_nat, List.getD_eq_getElem?_getD, List.getElem?_eq_getElem h]
  rfl
theorem take_rdT (l : List ByteArray) (i : Nat) (h : i < l.length) : l.take (i + 1) = l.take i ++ [rdOf ByteArray.empty l (i : Int)] := by
  rw [List.take_succ_eq_append_getElem h, rdT_nat, List.getD_eq_getElem?_getD, List.getElem?_eq_getElem h]
  rfl
theorem set_lenT (q : List ByteArray) (x y : ByteArray) (s : List ByteArray) : (q ++ x :: s).set q.length y = q ++ y :: s := by
  rw [List.set_append]
  simp
theorem text_eq (s t : ByteArray) : s.toList = t.toList ↔ s = t := by
  rw [Lib.toList_data, Lib.toList_data]
  constructor
  · intro h
    apply ByteArray.ext
    exact Array.ext' h
  · intro h
    rw [h]

end Go.Proofs.Ytmglhpajnhdafaa.Pure

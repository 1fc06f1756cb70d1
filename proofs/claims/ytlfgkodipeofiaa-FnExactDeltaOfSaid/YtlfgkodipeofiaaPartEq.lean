/- Plain lemmas on what the printed functions answer: numbers and lists alone. -/
import Derived.Test.YtlfgkodipeofiaaPEx0
import Derived.Test.YtlfgkodipeofiaaPEx1
import Derived.Test.YtlfgkodipeofiaaNums
namespace Go.Proofs.Ytlfgkodipeofiaa.Pure
open Go.RowKit Go.Proofs.Ytlfgkodipeofiaa.PE Go.Proofs.YtlfgkodipeofiaaW.PrintWords Go.Proofs.YtlfgkodipeofiaaW.PrintLast
set_option linter.unusedVariables false
set_option linter.unusedSimpArgs false

theorem drop_rd59 (l : List S59) (i : Nat) (h : i < l.length) : l.drop i = rd_T59 l (i : Int) :: l.drop (i + 1) := by
  rw [List.drop_eq_getElem_cons h]
  simp [rd_T59, List.getD_eq_getElem?_getD, h]
theorem take_rd59 (l : List S59) (i : Nat) (h : i < l.length) : l.take (i + 1) = l.take i ++ [rd_T59 l (i : Int)] := by
  rw [List.take_succ_eq_append_getElem h]
  simp [rd_T59, List.getD_eq_getElem?_getD, h]
theorem mem_rd59 (l : List S59) (i : Nat) (h : i < l.length) : rd_T59 l (i : Int) ∈ l := by
  have e : rd_T59 l (i : Int) = l[i] := by simp [rd_T59, List.getD_eq_getElem?_getD, h]
  rw [e]
  exact List.getElem_mem h
theorem eqPartS_l0 (a : List S59) (hb : a.length ≤ 1099511627776) : ∀ (d i : Nat), i + d = a.length → Ev (fun k => laws_eqPartS.l0 k a a (i : Int)) true
  | 0, i, h => Ev.stepc (fun k => by
      simp only [laws_eqPartS.l0]
      rw [if_neg (by omega)])
  | d + 1, i, h => by
    refine Ev.step (fun k => ?_) (eqPartS_l0 a hb d (i + 1) (by omega))
    simp only [laws_eqPartS.l0, laws_eqPart.f]
    rw [if_pos (by omega), if_pos (by omega), if_pos (by omega), wnat (by omega)]
    simp
/-- eqPartS says yes of a list and itself -/
theorem eqPartS_self (a : List S59) (hb : a.length ≤ 1099511627776) : Ev (fun k => laws_eqPartS.f k a a) true := by
  unfold laws_eqPartS.f
  simp only [if_true]
  exact eqPartS_l0 a hb a.length 0 (by omega)

end Go.Proofs.Ytlfgkodipeofiaa.Pure

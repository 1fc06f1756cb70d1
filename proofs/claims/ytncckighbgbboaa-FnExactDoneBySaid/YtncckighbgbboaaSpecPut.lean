/- Plain lemmas on what the printed functions answer: numbers and lists alone. -/
import Derived.Test.YtncckighbgbboaaPGx2
import Derived.Test.YtncckighbgbboaaStrictSets
namespace Go.Proofs.Ytncckighbgbboaa.Pure
open Go.RowKit Go.Proofs.Ytncckighbgbboaa.PG Go.Proofs.YtncckighbgbboaaW.PrintWords Go.Proofs.YtncckighbgbboaaW.PrintLast
set_option linter.unusedVariables false
set_option linter.unusedSimpArgs false

theorem specPut_l0 (l : List Int) (n : Int) (hb : l.length ≤ 1099511627776) : ∀ (d i : Nat), i + d = l.length →
    Ev (fun k => spec_l1Put.l0 k l n (i : Int)) (l.take i ++ putV (l.drop i) n)
  | 0, i, h => by
    refine Ev.stepc (fun k => ?_)
    have e0 : l.drop i = [] := List.drop_eq_nil_of_le (by omega)
    have e1 : l.take i = l := List.take_of_length_le (by omega)
    simp only [spec_l1Put.l0, Option.bind_some]
    rw [if_neg (by omega), if_pos (by omega), if_pos (by omega), Int.toNat_natCast, e0, e1]
    simp only [List.nil_append, List.length_nil, List.append_nil, Nat.zero_add]
    rw [if_pos (by omega), if_pos (by omega), if_pos (by rw [List.length_append, List.length_singleton]; omega)]
    rfl
  | d + 1, i, h => by
    have ed := drop_rd l i (by omega)
    rw [ed, putV]
    by_cases c : rd l (i : Int) < n
    · rw [if_pos c]
      have ih := specPut_l0 l n hb d (i + 1) (by omega)
      rw [take_rd l i (by omega), List.append_assoc] at ih
      refine Ev.step (fun k => ?_) ih
      simp only [spec_l1Put.l0]
      rw [if_pos (by omega), if_pos (by omega), if_pos c, wnat (by omega)]
    · rw [if_neg c]
      by_cases c2 : rd l (i : Int) = n
      · rw [if_pos c2, ← ed, List.take_append_drop]
        refine Ev.stepc (fun k => ?_)
        simp only [spec_l1Put.l0]
        rw [if_pos (by omega), if_pos (by omega), if_neg c, if_pos c2]
      · rw [if_neg c2, ← ed]
        refine Ev.stepc (fun k => ?_)
        have lt : (l.take i).length ≤ l.length := by rw [List.length_take]; omega
        simp only [spec_l1Put.l0, Option.bind_some]
        rw [if_pos (by omega), if_pos (by omega), if_neg c, if_neg c2, if_pos (by omega), Int.toNat_natCast]
        simp only [List.nil_append, List.length_nil, Nat.zero_add]
        rw [if_pos (by omega), if_pos (by omega), if_pos (by rw [List.length_append, List.length_singleton, List.length_drop]; omega), List.append_assoc]
        rfl
theorem specPut_ev (l : List Int) (n : Int) (hb : l.length ≤ 1099511627776) : Ev (fun k => spec_l1Put.f k l n) (putV l n) := by
  have h := specPut_l0 l n hb l.length 0 (by omega)
  unfold spec_l1Put.f
  simpa using h

end Go.Proofs.Ytncckighbgbboaa.Pure

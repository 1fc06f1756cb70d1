/- Plain lemmas on what the printed functions answer: numbers and lists alone. -/
import Derived.Test.YtmglhpajnhdafaaPQx5
import Derived.Test.YtmglhpajnhdafaaNums
namespace Go.Proofs.Ytmglhpajnhdafaa.Pure
open Go.RowKit Go.Proofs.Ytmglhpajnhdafaa.PQ Go.Proofs.YtmglhpajnhdafaaW.PrintWords Go.Proofs.YtmglhpajnhdafaaW.PrintLast
set_option linter.unusedVariables false
set_option linter.unusedSimpArgs false

theorem eqIntS_l0 (a b : List Int) (hl : a.length = b.length) (hb : a.length ≤ 1099511627776) : ∀ (d i : Nat), i + d = a.length →
    Ev (fun k => laws_eqIntS.l0 k a b (i : Int)) (decide (a.drop i = b.drop i))
  | 0, i, h => Ev.stepc (fun k => by
      simp only [laws_eqIntS.l0]
      rw [if_neg (by omega), List.drop_eq_nil_of_le (by omega), List.drop_eq_nil_of_le (by omega)]
      simp)
  | d + 1, i, h => by
    have hi : i < a.length := by omega
    rw [drop_rd a i hi, drop_rd b i (by omega)]
    by_cases e : rd a (i : Int) = rd b (i : Int)
    · have ih := eqIntS_l0 a b hl hb d (i + 1) (by omega)
      refine Ev.step (f := fun k => laws_eqIntS.l0 k a b ((i + 1 : Nat) : Int)) (fun k => ?_) ?_
      · simp only [laws_eqIntS.l0]
        rw [if_pos (by omega), if_pos (by omega), if_pos (by omega), if_pos e, wnat (by omega)]
      · simpa [e] using ih
    · refine Ev.stepc (fun k => ?_)
      simp only [laws_eqIntS.l0]
      rw [if_pos (by omega), if_pos (by omega), if_pos (by omega), if_neg e]
      simp [e]
/-- eqIntS tells whether two lists are one -/
theorem eqIntS_ev (a b : List Int) (hb : a.length ≤ 1099511627776) : Ev (fun k => laws_eqIntS.f k a b) (decide (a = b)) := by
  unfold laws_eqIntS.f
  by_cases hl : a.length = b.length
  · have h := eqIntS_l0 a b hl hb a.length 0 (by omega)
    simpa [hl] using h
  · have : a ≠ b := fun e => hl (by rw [e])
    have h2 : ¬ ((a.length : Int) = (b.length : Int)) := by omega
    simp only [if_neg h2]
    simpa [this] using Ev.now false
theorem eqIntS_self (a : List Int) (hb : a.length ≤ 1099511627776) : Ev (fun k => laws_eqIntS.f k a a) true := by
  simpa using eqIntS_ev a a hb

end Go.Proofs.Ytmglhpajnhdafaa.Pure

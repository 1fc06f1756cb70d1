/- Plain lemmas on what the printed functions answer: numbers and lists alone. -/
import Derived.Test.YthhnmdemmogjaaaPGx7
import Derived.Test.YthhnmdemmogjaaaMarkStrings
namespace Go.Proofs.Ythhnmdemmogjaaa.Pure
open Go.RowKit Go.Proofs.Ythhnmdemmogjaaa.PG Go.Proofs.YthhnmdemmogjaaaW.PrintWords Go.Proofs.YthhnmdemmogjaaaW.PrintLast
set_option linter.unusedVariables false
set_option linter.unusedSimpArgs false

theorem heldStringS_l0 (m : Int) (n : Nat) (hm : 0 ≤ m) (hm2 : m ≤ 1152921504606846976) (hn : n ≤ 1099511627776) : ∀ (d i : Nat), i + d = n →
    Ev (fun k => laws_heldStringS.l0 k (mtFrom m n) (m + i) (i : Int)) (m + n)
  | 0, i, h => by
    have hi : i = n := by omega
    subst hi
    refine Ev.stepc (fun k => ?_)
    simp only [laws_heldStringS.l0]
    rw [if_neg (by simp [mtFrom_length])]
  | d + 1, i, h => by
    have ih := heldStringS_l0 m n hm hm2 hn d (i + 1) (by omega)
    refine Ev.stepE (K := 70) (f := fun k => laws_heldStringS.l0 k (mtFrom m n) (m + ((i + 1 : Nat) : Int)) ((i + 1 : Nat) : Int)) (fun k hk => ?_) ih
    simp only [laws_heldStringS.l0]
    rw [if_pos (by simp [mtFrom_length]; omega), if_pos (by omega), mt_eq (m + i) (by omega) k hk, Option.bind_some, if_pos (by rw [mtFrom_rd m i n (by omega)]), wnat (by omega), w64 (by omega) (by omega)]
    congr 1
    omega
theorem heldStringS_ev (n : Nat) (m : Int) (hm : 0 ≤ m) (hm2 : m ≤ 1152921504606846976) (hn : n ≤ 1099511627776) :
    Ev (fun k => laws_heldStringS.f k (mtFrom m n) m) (m + n) := by
  have h := heldStringS_l0 m n hm hm2 hn n 0 (by omega)
  simpa [laws_heldStringS.f] using h

end Go.Proofs.Ythhnmdemmogjaaa.Pure

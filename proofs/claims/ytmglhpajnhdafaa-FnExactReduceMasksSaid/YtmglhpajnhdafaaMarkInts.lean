/- Plain lemmas on what the printed functions answer: numbers and lists alone. -/
import Derived.Test.YtmglhpajnhdafaaPQx5
import Derived.Test.YtmglhpajnhdafaaNums
namespace Go.Proofs.Ytmglhpajnhdafaa.Pure
open Go.RowKit Go.Proofs.Ytmglhpajnhdafaa.PQ Go.Proofs.YtmglhpajnhdafaaW.PrintWords Go.Proofs.YtmglhpajnhdafaaW.PrintLast
set_option linter.unusedVariables false
set_option linter.unusedSimpArgs false

/-- what markIntS writes: the numbers from m on -/
def upFrom (m : Int) : Nat → List Int
  | 0 => []
  | n + 1 => m :: upFrom (m + 1) n
theorem upFrom_length : ∀ (m : Int) (n : Nat), (upFrom m n).length = n
  | _, 0 => rfl
  | m, n + 1 => by simp [upFrom, upFrom_length (m + 1) n]
theorem upFrom_snoc : ∀ (m : Int) (n : Nat), upFrom m (n + 1) = upFrom m n ++ [m + n]
  | m, 0 => by simp [upFrom]
  | m, n + 1 => by
    rw [upFrom, upFrom_snoc (m + 1) n]
    simp only [upFrom, List.cons_append, List.cons.injEq, true_and]
    congr 2
    omega
theorem rd_append_len (p : List Int) (x : Int) (q : List Int) : rd (p ++ x :: q) (p.length : Int) = x := by
  rw [rd_nat]
  simp [List.getD_eq_getElem?_getD]
theorem markIntS_l0 (m : Int) (n : Nat) (hm : 0 ≤ m) (hm2 : m ≤ 1152921504606846976) (hn : n ≤ 1099511627776) : ∀ (q : List Int) (i : Nat), i + q.length = n →
    Ev (fun k => laws_markIntS.l0 k (upFrom m i ++ q) (m + i) (i : Int)) (m + n, upFrom m n)
  | [], i, h => by
    have hi : i = n := by simpa using h
    subst hi
    refine Ev.stepc (fun k => ?_)
    simp only [laws_markIntS.l0]
    rw [if_neg (by simp [upFrom_length])]
    simp
  | x :: q, i, h => by
    have h' : i + q.length + 1 = n := by simpa [Nat.add_assoc] using h
    have ih := markIntS_l0 m n hm hm2 hn q (i + 1) (by omega)
    refine Ev.step (f := fun k => laws_markIntS.l0 k (upFrom m (i + 1) ++ q) (m + ((i + 1 : Nat) : Int)) ((i + 1 : Nat) : Int)) (fun k => ?_) ih
    simp only [laws_markIntS.l0]
    rw [if_pos (by simp [upFrom_length]; omega), if_pos (by omega), wnat (by omega), w64 (by omega) (by omega)]
    have e1 : (upFrom m i ++ x :: q).set (i : Int).toNat (m + i) = upFrom m (i + 1) ++ q := by
      rw [upFrom_snoc, List.set_append]
      simp [upFrom_length]
    rw [e1]
    congr 1
    omega
/-- markIntS from m on: how far it counts, and what stands in the list then -/
theorem markIntS_ev (l : List Int) (m : Int) (hm : 0 ≤ m) (hm2 : m ≤ 1152921504606846976) (hn : l.length ≤ 1099511627776) :
    Ev (fun k => laws_markIntS.f k l m) (m + l.length, upFrom m l.length) := by
  have h := markIntS_l0 m l.length hm hm2 hn l 0 (by omega)
  simpa [laws_markIntS.f, upFrom] using h

end Go.Proofs.Ytmglhpajnhdafaa.Pure

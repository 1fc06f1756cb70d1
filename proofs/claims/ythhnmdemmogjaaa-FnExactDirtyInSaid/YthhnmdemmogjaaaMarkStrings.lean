/- Plain lemmas on what the printed functions answer: numbers and lists alone. -/
import Derived.Test.YthhnmdemmogjaaaPHx3
import Derived.Test.YthhnmdemmogjaaaMarkTexts
import Derived.Test.YthhnmdemmogjaaaStringS
namespace Go.Proofs.Ythhnmdemmogjaaa.Pure
open Go.RowKit Go.Proofs.Ythhnmdemmogjaaa.PH Go.Proofs.YthhnmdemmogjaaaW.PrintWords Go.Proofs.YthhnmdemmogjaaaW.PrintLast
set_option linter.unusedVariables false
set_option linter.unusedSimpArgs false

/-- what markStringS writes: the marks' texts from m on -/
noncomputable def mtFrom (m : Int) : Nat → List ByteArray
  | 0 => []
  | n + 1 => mtFrom m n ++ [mt (m + n)]
theorem mtFrom_length (m : Int) : ∀ n : Nat, (mtFrom m n).length = n
  | 0 => rfl
  | n + 1 => by simp [mtFrom, mtFrom_length m n]
theorem mtFrom_rd (m : Int) (i : Nat) : ∀ n : Nat, i < n → rdOf ByteArray.empty (mtFrom m n) (i : Int) = mt (m + i)
  | n + 1, h => by
    rw [rdT_nat, mtFrom, List.getD_eq_getElem?_getD, List.getElem?_append, mtFrom_length]
    by_cases c : i < n
    · rw [if_pos c, ← List.getD_eq_getElem?_getD, ← rdT_nat]
      exact mtFrom_rd m i n c
    · have e : i = n := by omega
      subst e
      rw [if_neg (by omega)]
      simp
theorem markStringS_l0 (m : Int) (n : Nat) (hm : 0 ≤ m) (hm2 : m ≤ 1152921504606846976) (hn : n ≤ 1099511627776) : ∀ (q : List ByteArray) (i : Nat), i + q.length = n →
    Ev (fun k => laws_markStringS.l0 k (mtFrom m i ++ q) (m + i) (i : Int)) (m + n, mtFrom m n)
  | [], i, h => by
    have hi : i = n := by simpa using h
    subst hi
    refine Ev.stepc (fun k => ?_)
    simp only [laws_markStringS.l0]
    rw [if_neg (by simp [mtFrom_length])]
    simp
  | x :: q, i, h => by
    have h' : i + q.length + 1 = n := by simpa [Nat.add_assoc] using h
    have ih := markStringS_l0 m n hm hm2 hn q (i + 1) (by omega)
    refine Ev.stepE (K := 70) (f := fun k => laws_markStringS.l0 k (mtFrom m (i + 1) ++ q) (m + ((i + 1 : Nat) : Int)) ((i + 1 : Nat) : Int)) (fun k hk => ?_) ih
    simp only [laws_markStringS.l0]
    rw [if_pos (by simp [mtFrom_length]; omega), mt_eq (m + i) (by omega) k hk, Option.bind_some, if_pos (by omega), wnat (by omega), w64 (by omega) (by omega)]
    have e1 : (mtFrom m i ++ x :: q).set (i : Int).toNat (mt (m + i)) = mtFrom m (i + 1) ++ q := by
      have h2 := set_lenT (mtFrom m i) x (mt (m + i)) q
      rw [mtFrom_length] at h2
      rw [Int.toNat_natCast, h2, mtFrom]
      simp
    rw [e1]
    congr 1
    omega
theorem markStringS_ev (l : List ByteArray) (m : Int) (hm : 0 ≤ m) (hm2 : m ≤ 1152921504606846976) (hn : l.length ≤ 1099511627776) :
    Ev (fun k => laws_markStringS.f k l m) (m + l.length, mtFrom m l.length) := by
  have h := markStringS_l0 m l.length hm hm2 hn l 0 (by omega)
  simpa [laws_markStringS.f, mtFrom] using h

end Go.Proofs.Ythhnmdemmogjaaa.Pure

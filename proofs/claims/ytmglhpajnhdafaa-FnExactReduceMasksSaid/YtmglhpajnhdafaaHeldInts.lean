/- Plain lemmas on what the printed functions answer: numbers and lists alone. -/
import Derived.Test.YtmglhpajnhdafaaPQx5
import Derived.Test.YtmglhpajnhdafaaMarkInts
namespace Go.Proofs.Ytmglhpajnhdafaa.Pure
open Go.RowKit Go.Proofs.Ytmglhpajnhdafaa.PQ Go.Proofs.YtmglhpajnhdafaaW.PrintWords Go.Proofs.YtmglhpajnhdafaaW.PrintLast
set_option linter.unusedVariables false
set_option linter.unusedSimpArgs false

theorem heldIntS_l0 (m : Int) (n : Nat) (hm : 0 ≤ m) (hm2 : m ≤ 1099511627776) (hn : n ≤ 1099511627776) : ∀ (d i : Nat), i + d = n →
    Ev (fun k => laws_heldIntS.l0 k (upFrom m n) (m + i) (i : Int)) (m + n)
  | 0, i, h => by
    have hi : i = n := by omega
    subst hi
    refine Ev.stepc (fun k => ?_)
    simp only [laws_heldIntS.l0]
    rw [if_neg (by simp [upFrom_length])]
  | d + 1, i, h => by
    have ih := heldIntS_l0 m n hm hm2 hn d (i + 1) (by omega)
    refine Ev.step (f := fun k => laws_heldIntS.l0 k (upFrom m n) (m + ((i + 1 : Nat) : Int)) ((i + 1 : Nat) : Int)) (fun k => ?_) ih
    have e : rd (upFrom m n) (i : Int) = m + i := by
      have : ∀ (j n : Nat) (m : Int), j < n → (upFrom m n).getD j 0 = m + j := by
        intro j
        induction j with
        | zero => intro n m hj; obtain ⟨n, rfl⟩ : ∃ q, n = q + 1 := ⟨n - 1, by omega⟩; simp [upFrom]
        | succ j ih => intro n m hj; obtain ⟨n, rfl⟩ : ∃ q, n = q + 1 := ⟨n - 1, by omega⟩; rw [upFrom, List.getD_cons_succ, ih n (m + 1) (by omega)]; omega
      exact this i n m (by omega)
    simp only [laws_heldIntS.l0]
    rw [if_pos (by simp [upFrom_length]; omega), if_pos (by omega), if_pos e, wnat (by omega), w64 (by omega) (by omega)]
    congr 1
    omega
/-- heldIntS finds what markIntS wrote -/
theorem heldIntS_ev (n : Nat) (m : Int) (hm : 0 ≤ m) (hm2 : m ≤ 1099511627776) (hn : n ≤ 1099511627776) :
    Ev (fun k => laws_heldIntS.f k (upFrom m n) m) (m + n) := by
  have h := heldIntS_l0 m n hm hm2 hn n 0 (by omega)
  simpa [laws_heldIntS.f] using h

end Go.Proofs.Ytmglhpajnhdafaa.Pure

/- Plain lemmas on what the printed functions answer: numbers and lists alone. -/
import Derived.Test.YtmglhpajnhdafaaPQx2
import Derived.Test.YtmglhpajnhdafaaNums
namespace Go.Proofs.Ytmglhpajnhdafaa.Pure
open Go.RowKit Go.Proofs.Ytmglhpajnhdafaa.PQ Go.Proofs.YtmglhpajnhdafaaW.PrintWords Go.Proofs.YtmglhpajnhdafaaW.PrintLast
set_option linter.unusedVariables false
set_option linter.unusedSimpArgs false

theorem set_len (q : List Int) (x y : Int) (s : List Int) : (q ++ x :: s).set q.length y = q ++ y :: s := by
  rw [List.set_append]
  simp
theorem toIntS_l0 (l : List Int) (hb : l.length ≤ 1099511627776) : ∀ (d i : Nat), i + d = l.length →
    Ev (fun k => laws_toIntS.l0 k l (l.take i ++ List.replicate d 0) (i : Int)) l
  | 0, i, h => Ev.stepc (fun k => by
      simp only [laws_toIntS.l0]
      rw [if_neg (by omega), List.take_of_length_le (by omega)]
      simp)
  | d + 1, i, h => by
    have ih := toIntS_l0 l hb d (i + 1) (by omega)
    refine Ev.step (f := fun k => laws_toIntS.l0 k l (l.take (i + 1) ++ List.replicate d 0) ((i + 1 : Nat) : Int)) (fun k => ?_) ih
    simp only [laws_toIntS.l0]
    have hl : (l.take i).length = i := by rw [List.length_take]; omega
    have e : (l.take i ++ List.replicate (d + 1) 0).set (i : Int).toNat (rd l (i : Int)) = l.take (i + 1) ++ List.replicate d 0 := by
      have := set_len (l.take i) 0 (rd l (i : Int)) (List.replicate d 0)
      rw [hl] at this
      rw [List.replicate_succ, Int.toNat_natCast, this, take_rd l i (by omega)]
      simp
    rw [if_pos (by omega), if_pos (by omega), if_pos (by simp; omega), e, wnat (by omega)]
/-- toIntS copies a list -/
theorem toIntS_ev (l : List Int) (hb : l.length ≤ 1099511627776) : Ev (fun k => laws_toIntS.f k l) l := by
  have h := toIntS_l0 l hb l.length 0 (by omega)
  have h1 : (0 : Int) ≤ (l.length : Int) := by omega
  have h2 : ((l.length : Int) : Int).toNat ≤ 35184372088832 := by omega
  unfold laws_toIntS.f
  simp only [if_pos h1, if_pos h2]
  simpa using h

end Go.Proofs.Ytmglhpajnhdafaa.Pure

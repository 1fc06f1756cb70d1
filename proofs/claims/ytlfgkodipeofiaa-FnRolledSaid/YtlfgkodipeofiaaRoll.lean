/- Plain lemmas on what the printed functions answer: numbers and lists alone. -/
import Derived.Test.YtlfgkodipeofiaaPRx1
import Derived.Test.YtlfgkodipeofiaaNums
namespace Go.Proofs.Ytlfgkodipeofiaa.Pure
open Go.RowKit Go.Proofs.Ytlfgkodipeofiaa.PR Go.Proofs.YtlfgkodipeofiaaW.PrintWords Go.Proofs.YtlfgkodipeofiaaW.PrintLast
set_option linter.unusedVariables false
set_option linter.unusedSimpArgs false

theorem spec_roll_l0 (s : ByteArray) (hs : s.size ≤ 400) : ∀ (d j : Nat), j + d = s.size →
    Ev (fun k => spec_l11Roll.l0 k s (sA s j) (sB s j) (j : Int)) (rollV s)
  | 0, j, h => by
    have hj : j = s.size := by omega
    subst hj
    refine Ev.stepc (fun k => ?_)
    simp only [spec_l11Roll.l0]
    have h1 := sA_bd s s.size
    have h2 := sB_bd s hs s.size (Nat.le_refl _)
    rw [if_neg (by omega), Int.tmod_eq_emod_of_nonneg h1.1, Int.tmod_eq_emod_of_nonneg h2.1, w64 (x := 256 * (sB s s.size % 251)) (by omega) (by omega), w64 (by omega) (by omega)]
    rfl
  | d + 1, j, h => by
    have ih := spec_roll_l0 s hs d (j + 1) (by omega)
    refine Ev.step (f := fun k => spec_l11Roll.l0 k s (sA s (j + 1)) (sB s (j + 1)) ((j + 1 : Nat) : Int)) (fun k => ?_) ih
    have h1 := sA_bd s j
    have h0 := bt_bd s j
    simp only [spec_l11Roll.l0]
    rw [if_pos (by omega), if_pos (by omega), wnat (by omega), w64 (x := bt s j) (by omega) (by omega), w64 (x := (s.size : Int) - j) (by omega) (by omega), Int.mul_comm, sB_step s hs j (by omega), w64 (x := sA s j + bt s j) (by omega) (by omega)]
    rfl
theorem spec_roll_ev (s : ByteArray) (hs : s.size ≤ 400) : Ev (fun k => spec_l11Roll.f k s) (rollV s) := spec_roll_l0 s hs s.size 0 (by omega)
theorem impl_rollOf_eq (s : ByteArray) (hs : s.size ≤ 400) : impl_rollOf.f s = some (rollV s) := if_pos hs

end Go.Proofs.Ytlfgkodipeofiaa.Pure

/- Plain lemmas on what the printed functions answer: numbers and lists alone. -/
import Derived.Test.YtlfgkodipeofiaaPRx1
import Derived.Test.YtlfgkodipeofiaaRoll
namespace Go.Proofs.Ytlfgkodipeofiaa.Pure
open Go.RowKit Go.Proofs.Ytlfgkodipeofiaa.PR Go.Proofs.YtlfgkodipeofiaaW.PrintWords Go.Proofs.YtlfgkodipeofiaaW.PrintLast
set_option linter.unusedVariables false
set_option linter.unusedSimpArgs false

/-- the rolling sums of the whole blocks from place 4 i on -/
def sumsFrom (s : ByteArray) : Nat → Nat → List Int
  | 0, _ => []
  | n + 1, i => rollV (s.extract (4 * i) (4 * i + 4)) :: sumsFrom s n (i + 1)
theorem sumsFrom_length (s : ByteArray) : ∀ n i, (sumsFrom s n i).length = n
  | 0, _ => rfl
  | n + 1, i => by simp [sumsFrom, sumsFrom_length s n (i + 1)]
theorem ext4 (s : ByteArray) (i : Nat) (h : 4 * i + 4 ≤ s.size) : (s.extract (4 * i) (4 * i + 4)).size = 4 := by
  rw [ByteArray.size_extract]
  omega
theorem cast4 (i : Nat) (h : i ≤ 400) : wrap64 (((4 * i : Nat) : Int) + 4) = ((4 * (i + 1) : Nat) : Int) := by
  rw [w64 (by omega) (by omega)]
  omega
theorem spec_sums_l0 (s : ByteArray) (hs : s.size ≤ 120) : ∀ (n i : Nat) (p : List Int), i + n = s.size / 4 → p.length ≤ i →
    Ev (fun k => spec_BlockSums.l0 k s p ((4 * i : Nat) : Int)) (p ++ sumsFrom s n i, true)
  | 0, i, p, h, _ => by
    refine Ev.stepc (fun k => ?_)
    simp only [spec_BlockSums.l0]
    rw [cast4 i (by omega), if_neg (by omega)]
    simp [sumsFrom]
  | n + 1, i, p, h, hp => by
    have hi : 4 * i + 4 ≤ s.size := by omega
    have ih := spec_sums_l0 s hs n (i + 1) (p ++ [rollV (s.extract (4 * i) (4 * i + 4))]) (by omega) (by simp; omega)
    refine Ev.step (f := fun k => (spec_l11Roll.f k (s.extract (4 * i) (4 * i + 4))).bind fun t => spec_BlockSums.l0 k s (p ++ [t]) ((4 * (i + 1) : Nat) : Int)) (fun k => ?_) ?_
    · simp only [spec_BlockSums.l0]
      rw [cast4 i (by omega), if_pos (by omega), if_pos (by omega), if_pos (by omega)]
      have e : (((4 * (i + 1) : Nat) : Int)).toNat = 4 * i + 4 := by omega
      have e2 : (((4 * i : Nat) : Int)).toNat = 4 * i := by omega
      rw [e, e2]
      have l : p.length < 17592186044416 := by omega
      simp only [if_pos l]
    · refine Ev.bind (spec_roll_ev _ (by rw [ext4 s i hi]; omega)) ?_
      simpa [sumsFrom] using ih
theorem impl_sums_l0 (s : ByteArray) (hs : s.size ≤ 120) : ∀ (n i : Nat) (p : List Int), i + n = s.size / 4 → p.length ≤ i →
    Ev (fun k => impl_BlockSums.l0 k s p ((4 * i : Nat) : Int)) (p ++ sumsFrom s n i, true)
  | 0, i, p, h, _ => by
    refine Ev.stepc (fun k => ?_)
    simp only [impl_BlockSums.l0]
    rw [cast4 i (by omega), if_neg (by omega)]
    simp [sumsFrom]
  | n + 1, i, p, h, hp => by
    have hi : 4 * i + 4 ≤ s.size := by omega
    have ih := impl_sums_l0 s hs n (i + 1) (p ++ [rollV (s.extract (4 * i) (4 * i + 4))]) (by omega) (by simp; omega)
    refine Ev.step (f := fun k => impl_BlockSums.l0 k s (p ++ [rollV (s.extract (4 * i) (4 * i + 4))]) ((4 * (i + 1) : Nat) : Int)) (fun k => ?_) ?_
    · simp only [impl_BlockSums.l0]
      rw [cast4 i (by omega), if_pos (by omega), if_pos (by omega), if_pos (by omega)]
      have e : (((4 * (i + 1) : Nat) : Int)).toNat = 4 * i + 4 := by omega
      have e2 : (((4 * i : Nat) : Int)).toNat = 4 * i := by omega
      rw [e, e2, impl_rollOf_eq _ (by rw [ext4 s i hi]; omega)]
      have l : p.length < 17592186044416 := by omega
      simp only [if_pos l, Option.bind_some]
    · simpa [sumsFrom] using ih

end Go.Proofs.Ytlfgkodipeofiaa.Pure

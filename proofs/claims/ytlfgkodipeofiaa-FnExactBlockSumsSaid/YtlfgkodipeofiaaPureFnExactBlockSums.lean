/- The program's BlockSums returns what the reference's returns: for all arguments, with no condition. -/
import Derived.Test.YtlfgkodipeofiaaPAx1
import Derived.Test.YtlfgkodipeofiaaPAx2
import Derived.Test.YtlfgkodipeofiaaRoll
import Derived.Test.YtlfgkodipeofiaaEqInts
import Derived.Test.YtlfgkodipeofiaaHeldInts
namespace Go.Proofs.Ytlfgkodipeofiaa.Pure
open Go.RowKit Go.Proofs.Ytlfgkodipeofiaa.PA Go.Proofs.YtlfgkodipeofiaaW.PrintWords Go.Proofs.YtlfgkodipeofiaaW.PrintLast
set_option linter.unusedVariables false
set_option linter.unusedSimpArgs false

/-- the rolling sums of the whole blocks from place 4 i on -/
def sumsFrom (s : ByteArray) : Nat → Nat → List Int
  | 0, _ => []
  | n + 1, i => rollV (s.extract (4 * i) (4 * i + 4)) :: sumsFrom s n (i + 1)
theorem sumsFrom_length (s : ByteArray) : ∀ n i, (sumsFrom s n i).length = n
  | 0, _ => rfl
  | n + 1, i => by simp [sumsFrom, sumsFrom_length s n (i + 1)]
theorem ext4 (s : ByteArray) (i : Nat) (h : 4 * i + 4 ≤ s.size) : (s.extract (4 * i) (4 * i + 4)).size = 4 := by
  rw [ByteArray.size_extract]
  omega
theorem cast4 (i : Nat) (h : i ≤ 400) : wrap64 (((4 * i : Nat) : Int) + 4) = ((4 * (i + 1) : Nat) : Int) := by
  rw [w64 (by omega) (by omega)]
  omega
theorem spec_sums_l0 (s : ByteArray) (hs : s.size ≤ 120) : ∀ (n i : Nat) (p : List Int), i + n = s.size / 4 → p.length ≤ i →
    Ev (fun k => spec_BlockSums.l0 k s p ((4 * i : Nat) : Int)) (p ++ sumsFrom s n i, true)
  | 0, i, p, h, _ => by
    refine Ev.stepc (fun k => ?_)
    simp only [spec_BlockSums.l0]
    rw [cast4 i (by omega), if_neg (by omega)]
    simp [sumsFrom]
  | n + 1, i, p, h, hp => by
    have hi : 4 * i + 4 ≤ s.size := by omega
    have ih := spec_sums_l0 s hs n (i + 1) (p ++ [rollV (s.extract (4 * i) (4 * i + 4))]) (by omega) (by simp; omega)
    refine Ev.step (f := fun k => (spec_l11Roll.f k (s.extract (4 * i) (4 * i + 4))).bind fun t => spec_BlockSums.l0 k s (p ++ [t]) ((4 * (i + 1) : Nat) : Int)) (fun k => ?_) ?_
    · simp only [spec_BlockSums.l0]
      rw [cast4 i (by omega), if_pos (by omega), if_pos (by omega), if_pos (by omega)]
      have e : (((4 * (i + 1) : Nat) : Int)).toNat = 4 * i + 4 := by omega
      have e2 : (((4 * i : Nat) : Int)).toNat = 4 * i := by omega
      rw [e, e2]
      have l : p.length < 17592186044416 := by omega
      simp only [if_pos l]
    · refine Ev.bind (spec_roll_ev _ (by rw [ext4 s i hi]; omega)) ?_
      simpa [sumsFrom] using ih
theorem impl_sums_l0 (s : ByteArray) (hs : s.size ≤ 120) : ∀ (n i : Nat) (p : List Int), i + n = s.size / 4 → p.length ≤ i →
    Ev (fun k => impl_BlockSums.l0 k s p ((4 * i : Nat) : Int)) (p ++ sumsFrom s n i, true)
  | 0, i, p, h, _ => by
    refine Ev.stepc (fun k => ?_)
    simp only [impl_BlockSums.l0]
    rw [cast4 i (by omega), if_neg (by omega)]
    simp [sumsFrom]
  | n + 1, i, p, h, hp => by
    have hi : 4 * i + 4 ≤ s.size := by omega
    have ih := impl_sums_l0 s hs n (i + 1) (p ++ [rollV (s.extract (4 * i) (4 * i + 4))]) (by omega) (by simp; omega)
    refine Ev.step (f := fun k => impl_BlockSums.l0 k s (p ++ [rollV (s.extract (4 * i) (4 * i + 4))]) ((4 * (i + 1) : Nat) : Int)) (fun k => ?_) ?_
    · simp only [impl_BlockSums.l0]
      rw [cast4 i (by omega), if_pos (by omega), if_pos (by omega), if_pos (by omega)]
      have e : (((4 * (i + 1) : Nat) : Int)).toNat = 4 * i + 4 := by omega
      have e2 : (((4 * i : Nat) : Int)).toNat = 4 * i := by omega
      rw [e, e2, impl_rollOf_eq _ (by rw [ext4 s i hi]; omega)]
      have l : p.length < 17592186044416 := by omega
      simp only [if_pos l, Option.bind_some]
    · simpa [sumsFrom] using ih
theorem FnExactBlockSums : laws_FnExactBlockSums.Pure := by
  intro a0 _
  suffices h : Ev (fun k => laws_FnExactBlockSums.f k a0) true from h.rounds
  by_cases c1 : (a0.size : Int) > 1048576
  · unfold laws_FnExactBlockSums.f
    simp only [if_pos c1]
    exact Ev.now true
  · obtain ⟨L, b, hl, h1, h2⟩ : ∃ (L : List Int) (b : Bool), L.length ≤ 120 ∧ Ev (fun k => spec_BlockSums.f k a0) (L, b) ∧ Ev (fun k => impl_BlockSums.f k a0) (L, b) := by
      unfold spec_BlockSums.f impl_BlockSums.f spec_l11Long.f impl_isShort.f
      by_cases c2 : (a0.size : Int) ≤ 120
      · refine ⟨sumsFrom a0 (a0.size / 4) 0, true, by rw [sumsFrom_length]; omega, ?_, ?_⟩
        · simp only [decide_eq_true c2, Option.bind_some, if_true]
          exact spec_sums_l0 a0 (by omega) (a0.size / 4) 0 [] (by omega) (by simp)
        · simp only [decide_eq_true c2, Option.bind_some, if_true]
          exact impl_sums_l0 a0 (by omega) (a0.size / 4) 0 [] (by omega) (by simp)
      · refine ⟨[], false, by simp, ?_, ?_⟩ <;> simpa [decide_eq_false c2] using Ev.now (([] : List Int), false)
    have e1 := eqIntS_self L (by omega)
    have m1 := markIntS_ev L 1 (by omega) (by omega) (by omega)
    have m2 := heldIntS_ev L.length 1 (by omega) (by omega) (by omega)
    have j1 : Ev (fun k => laws_FnExactBlockSums.j1 k (upFrom 1 L.length) (1 + (L.length : Int)) false) true := by
      refine Ev.step (f := fun k => (laws_heldIntS.f k (upFrom 1 L.length) 1).bind fun t => if t < 0 then some false else if t = 1 + (L.length : Int) then some true else some false) (fun k => ?_) ?_
      · simp only [laws_FnExactBlockSums.j1]
        rfl
      · refine Ev.bind m2 ?_
        have : ¬ (1 + (L.length : Int) < 0) := by omega
        simpa [this] using Ev.now true
    have j0 : Ev (fun k => laws_FnExactBlockSums.j0 k a0 L b L false) true := by
      refine Ev.step (f := fun k => (laws_markIntS.f k L 1).bind fun bt132 => ((laws_heldIntS.f k bt132.2 1).bind fun t134 => (if t134 < 0 then (some false) else (if t134 = bt132.1 then ((impl_BlockSums.f k a0).bind fun bt135 => ((laws_eqIntS.f k bt135.1 L).bind fun t139 => (if t139 = true then (laws_FnExactBlockSums.j1 k bt132.2 bt132.1 (bt135.2 != b)) else (laws_FnExactBlockSums.j1 k bt132.2 bt132.1 true)))) else (some false))))) (fun k => ?_) ?_
      · simp only [laws_FnExactBlockSums.j0]
        rfl
      · refine Ev.bind m1 (Ev.bind m2 ?_)
        have n : ¬ (1 + (L.length : Int) < 0) := by omega
        simp only [if_neg n, if_true]
        refine Ev.bind h2 (Ev.bind e1 ?_)
        simpa using j1
    unfold laws_FnExactBlockSums.f
    simp only [if_neg c1]
    refine Ev.bind h1 (Ev.bind h2 (Ev.bind e1 ?_))
    simpa using j0

end Go.Proofs.Ytlfgkodipeofiaa.Pure

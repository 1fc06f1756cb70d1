/- Plain lemmas on what the printed functions answer: numbers and lists alone. -/
import Derived.Test.YthhnmdemmogjaaaPGx0
import Derived.Test.YthhnmdemmogjaaaPGx5
import Derived.Test.YthhnmdemmogjaaaPGx7
import Derived.Test.YthhnmdemmogjaaaSpecAts
import Derived.Test.YthhnmdemmogjaaaImplAts
import Derived.Test.YthhnmdemmogjaaaGoodFacts
namespace Go.Proofs.Ythhnmdemmogjaaa.Pure
open Go.RowKit Go.Proofs.Ythhnmdemmogjaaa.PG Go.Proofs.YthhnmdemmogjaaaW.PrintWords Go.Proofs.YthhnmdemmogjaaaW.PrintLast
set_option linter.unusedVariables false
set_option linter.unusedSimpArgs false

/-- all blocks as they stand last -/
def lastV (l : List S51) : List ByteArray × Bool := if goodB l = true then (atV l, true) else ([], false)
theorem lastV_len (l : List S51) : (lastV l).1.length ≤ 16 := by
  unfold lastV
  split
  · rw [atV_len]; omega
  · simp
theorem specLast_l0 (l : List S51) (hl : l.length ≤ 1048576) (hg : ∀ y ∈ l, goodL y) (h1 : 1 ≤ l.length) : ∀ (d n : Nat), n + d = 16 →
    Ev (fun k => spec_l15Last.l0 k ((atV l).take n) (n : Int) l) (atV l)
  | 0, n, h => by
    refine Ev.stepc (fun k => ?_)
    simp only [spec_l15Last.l0]
    rw [if_neg (by omega), List.take_of_length_le (by rw [atV_len]; omega)]
  | d + 1, n, h => by
    have ih := specLast_l0 l hl hg h1 d (n + 1) (by omega)
    rw [take_rdT (atV l) n (by rw [atV_len]; omega), atV_rd l hg n (by omega)] at ih
    have h3 := specAt_ev (n : Int) l hl hg (l.length - 1) (by omega)
    rw [List.take_of_length_le (by omega)] at h3
    have e : wrap64 ((l.length : Int) - 1) = ((l.length - 1 : Nat) : Int) := by rw [w64 (by omega) (by omega)]; omega
    refine Ev.step (f := fun k => (spec_l7At.f k l ((l.length - 1 : Nat) : Int) (n : Int)).bind fun t => spec_l15Last.l0 k ((atV l).take n ++ [t]) ((n + 1 : Nat) : Int) l) (fun k => ?_) (Ev.bind h3 ih)
    simp only [spec_l15Last.l0]
    rw [if_pos (by omega), wnat (by omega), e]
    have l2 : ((atV l).take n).length < 8796093022208 := by rw [List.length_take, atV_len]; omega
    simp only [if_pos l2]
theorem specLast_ev (l : List S51) (hl : okL l) : Ev (fun k => spec_LastBlocks.f k l) (lastV l) := by
  unfold spec_LastBlocks.f lastV
  refine Ev.bind (specGood_ev l hl) ?_
  cases c : goodB l with
  | false => simpa using Ev.now _
  | true =>
    obtain ⟨hg, h1, _⟩ := good_layers l hl c
    simp only [if_true]
    refine Ev.bind ?_ (Ev.now _)
    unfold spec_l15Last.f
    simpa using specLast_l0 l hl.1 hg h1 16 0 (by omega)
theorem implLasts_ev (l : List S51) (hl : okL l) (c : goodB l = true) : Ev (fun k => impl_Marks_lastBlocks.f k l) (atV l) := by
  obtain ⟨hg, h1, _⟩ := good_layers l hl c
  unfold impl_Marks_lastBlocks.f
  have h3 := implAt_ev l hl.1 hg (l.length - 1) (by omega)
  rw [List.take_of_length_le (by omega)] at h3
  have hl1 := hl.1
  have e : wrap64 ((l.length : Int) - 1) = ((l.length - 1 : Nat) : Int) := by rw [w64 (by omega) (by omega)]; omega
  rw [e]
  exact Ev.bind h3 (Ev.now _)
theorem implLast_ev (l : List S51) (hl : okL l) : Ev (fun k => impl_LastBlocks.f k l) (lastV l) := by
  unfold impl_LastBlocks.f lastV
  refine Ev.bind (implGood_ev l hl) ?_
  cases c : goodB l with
  | false => simpa using Ev.now _
  | true =>
    simp only [if_true]
    exact Ev.bind (implLasts_ev l hl c) (Ev.now _)

end Go.Proofs.Ythhnmdemmogjaaa.Pure

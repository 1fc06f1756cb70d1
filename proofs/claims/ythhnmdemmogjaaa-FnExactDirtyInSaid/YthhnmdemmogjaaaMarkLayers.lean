/- Plain lemmas on what the printed functions answer: numbers and lists alone. -/
import Derived.Test.YthhnmdemmogjaaaPHx0
import Derived.Test.YthhnmdemmogjaaaPHx3
import Derived.Test.YthhnmdemmogjaaaMarkStrings
import Derived.Test.YthhnmdemmogjaaaMarkInts
import Derived.Test.YthhnmdemmogjaaaEqLayers
namespace Go.Proofs.Ythhnmdemmogjaaa.Pure
open Go.RowKit Go.Proofs.Ythhnmdemmogjaaa.PH Go.Proofs.YthhnmdemmogjaaaW.PrintWords Go.Proofs.YthhnmdemmogjaaaW.PrintLast
set_option linter.unusedVariables false
set_option linter.unusedSimpArgs false

theorem rdL_set (x : List S51) (i j : Nat) (v : S51) (h : i ≠ j) : rd_T51 (x.set i v) (j : Int) = rd_T51 x (j : Int) := by
  simp only [rd_T51, List.getD_eq_getElem?_getD, Int.toNat_natCast]
  rw [List.getElem?_set_ne h]
theorem markLayerS_l0 : ∀ (d i : Nat) (x : List S51) (c : Int), i + d = x.length → x.length ≤ 1048576 → (∀ j : Nat, i ≤ j → smallL (rd_T51 x (j : Int))) → 0 ≤ c → c + d * 2097153 ≤ 1152921504606846976 →
    ∃ r, Ev (fun k => laws_markLayerS.l0 k x c (i : Int)) r ∧ 0 ≤ r.1
  | 0, i, x, c, h, hx, hs, hc, hd => ⟨(c, x), Ev.stepc (fun k => by
      simp only [laws_markLayerS.l0]
      rw [if_neg (by omega)]), hc⟩
  | d + 1, i, x, c, h, hx, hs, hc, hd => by
    have hi := hs i (Nat.le_refl _)
    obtain ⟨l1, l2⟩ := hi
    have m1 := markIntS_ev (rd_T51 x (i : Int)).f1 (c + 1) (by omega) (by omega) (by omega)
    have m2 := markStringS_ev (rd_T51 x (i : Int)).f2 (c + 1 + (rd_T51 x (i : Int)).f1.length) (by omega) (by omega) (by omega)
    obtain ⟨r, hr, h0⟩ := markLayerS_l0 d (i + 1) (x.set i (⟨c, upFrom (c + 1) (rd_T51 x (i : Int)).f1.length, mtFrom (c + 1 + (rd_T51 x (i : Int)).f1.length) (rd_T51 x (i : Int)).f2.length⟩ : S51))
      (c + 1 + (rd_T51 x (i : Int)).f1.length + (rd_T51 x (i : Int)).f2.length) (by rw [List.length_set]; omega) (by rw [List.length_set]; exact hx) (fun j hj => by rw [rdL_set x i j _ (by omega)]; exact hs j (by omega)) (by omega) (by omega)
    refine ⟨r, Ev.step (f := fun k => (laws_markIntS.f k (rd_T51 x (i : Int)).f1 (c + 1)).bind fun p => ((laws_markStringS.f k (rd_T51 x (i : Int)).f2 p.1).bind fun q => laws_markLayerS.l0 k (x.set i (⟨c, p.2, q.2⟩ : S51)) q.1 ((i + 1 : Nat) : Int))) (fun k => ?_) (Ev.bind m1 (Ev.bind m2 hr)), h0⟩
    simp only [laws_markLayerS.l0]
    rw [if_pos (by omega), if_pos (by omega), wnat (by omega), w64 (by omega) (by omega)]
    rfl
theorem markMarks_ev (l : List S51) (hl : l.length ≤ 1048576) (hs : ∀ x ∈ l, smallL x) : ∃ r, Ev (fun k => laws_markMarks.f k l 1) r ∧ 0 ≤ r := by
  obtain ⟨r, hr, h0⟩ := markLayerS_l0 l.length 0 l 1 (by omega) hl (fun j _ => by
    by_cases c : j < l.length
    · exact hs _ (mem_rdL l j c)
    · have e : rd_T51 l (j : Int) = z51 := by simp [rd_T51, List.getD_eq_getElem?_getD, List.getElem?_eq_none (by omega : l.length ≤ j)]
      rw [e]
      exact ⟨by decide, by decide⟩) (by omega) (by omega)
  refine ⟨r.1, ?_, h0⟩
  unfold laws_markMarks.f laws_markLayerS.f
  exact Ev.bind hr (Ev.now r.1)

end Go.Proofs.Ythhnmdemmogjaaa.Pure

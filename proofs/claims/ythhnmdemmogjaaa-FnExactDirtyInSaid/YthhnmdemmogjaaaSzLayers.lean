/- Plain lemmas on what the printed functions answer: numbers and lists alone. -/
import Derived.Test.YthhnmdemmogjaaaPHx0
import Derived.Test.YthhnmdemmogjaaaPHx1
import Derived.Test.YthhnmdemmogjaaaPHx7
import Derived.Test.YthhnmdemmogjaaaToLayers
namespace Go.Proofs.Ythhnmdemmogjaaa.Pure
open Go.RowKit Go.Proofs.Ythhnmdemmogjaaa.PH Go.Proofs.YthhnmdemmogjaaaW.PrintWords Go.Proofs.YthhnmdemmogjaaaW.PrintLast
set_option linter.unusedVariables false
set_option linter.unusedSimpArgs false

theorem szStringS_l0 (l : List ByteArray) (hb : l.length ≤ 1048576) (hw : ∀ x ∈ l, x.size ≤ maxLen) : ∀ (d i : Nat) (left : Int), i + d = l.length → 0 ≤ left → left ≤ 1048576 →
    ∃ r, Ev (fun k => laws_szStringS.l0 k l left (i : Int)) r ∧ r ≤ left ∧ -1 ≤ r
  | 0, i, left, h, h0, h1 => ⟨left, Ev.stepc (fun k => by
      simp only [laws_szStringS.l0]
      rw [if_neg (by omega)]), Int.le_refl _, by omega⟩
  | d + 1, i, left, h, h0, h1 => by
    have hm : rdOf ByteArray.empty l (i : Int) ∈ l := by
      have e : rdOf ByteArray.empty l (i : Int) = l[i]'(by omega) := by
        rw [rdT_nat, List.getD_eq_getElem?_getD, List.getElem?_eq_getElem (by omega)]
        rfl
      rw [e]
      exact List.getElem_mem _
    have hs := hw _ hm
    unfold maxLen at hs
    have e1 : wrap64 (left - ((rdOf ByteArray.empty l (i : Int)).size : Int)) = left - ((rdOf ByteArray.empty l (i : Int)).size : Int) := w64 (by omega) (by omega)
    by_cases c : left - ((rdOf ByteArray.empty l (i : Int)).size : Int) < 0
    · refine ⟨-1, Ev.stepc (fun k => ?_), by omega, by omega⟩
      simp only [laws_szStringS.l0]
      rw [if_pos (by omega), if_pos (by omega), e1, if_pos c]
    · obtain ⟨r, hr, hx⟩ := szStringS_l0 l hb hw d (i + 1) (left - ((rdOf ByteArray.empty l (i : Int)).size : Int)) (by omega) (by omega) (by omega)
      refine ⟨r, Ev.step (fun k => ?_) hr, by omega⟩
      simp only [laws_szStringS.l0]
      rw [if_pos (by omega), if_pos (by omega), e1, if_neg c, wnat (by omega)]
theorem szStringS_ev (l : List ByteArray) (hm : l.length ≤ maxLen) (hw : ∀ x ∈ l, x.size ≤ maxLen) (left : Int) (h0 : 0 ≤ left) (h1 : left ≤ 1048576) : ∃ r, Ev (fun k => laws_szStringS.f k l left) r ∧ r ≤ left ∧ -1 ≤ r ∧ (0 ≤ r → l.length ≤ 1048576) := by
  unfold maxLen at hm
  unfold laws_szStringS.f
  have e1 : wrap64 (left - (l.length : Int)) = left - (l.length : Int) := w64 (by omega) (by omega)
  rw [e1]
  by_cases c : left - (l.length : Int) < 0
  · simp only [if_pos c]
    exact ⟨-1, Ev.now _, by omega, by omega, fun h => by omega⟩
  · simp only [if_neg c]
    obtain ⟨r, hr, hx, hy⟩ := szStringS_l0 l (by omega) hw l.length 0 (left - (l.length : Int)) (by omega) (by omega) (by omega)
    exact ⟨r, hr, by omega, hy, fun _ => by omega⟩
theorem szLayer_ev (x : S98) (hw : wf98 x) (left : Int) (h0 : 0 ≤ left) (h1 : left ≤ 1048576) : ∃ r, Ev (fun k => laws_szLayer.f k x.f0 x.f1 x.f2 left) r ∧ r ≤ left ∧ -1 ≤ r ∧ (0 ≤ r → smallW x) := by
  obtain ⟨_, ⟨hl1, _⟩, hl2, hs2⟩ := hw
  unfold maxLen at hl1
  unfold laws_szLayer.f laws_szIntS.f
  have e1 : wrap64 (left - (x.f1.length : Int)) = left - (x.f1.length : Int) := w64 (by omega) (by omega)
  rw [e1]
  by_cases c : left - (x.f1.length : Int) < 0
  · refine ⟨-1, ?_, by omega, by omega, fun h => by omega⟩
    simp only [if_pos c, Option.bind_some, if_pos (show (-1 : Int) < 0 by omega)]
    exact Ev.now _
  · simp only [if_neg c, Option.bind_some]
    obtain ⟨r, hr, h2, h3, h4⟩ := szStringS_ev x.f2 hl2 hs2 (left - (x.f1.length : Int)) (by omega) (by omega)
    by_cases c2 : r < 0
    · refine ⟨-1, Ev.bind hr ?_, by omega, by omega, fun h => by omega⟩
      simp only [if_pos c2]
      exact Ev.now _
    · refine ⟨r, Ev.bind hr ?_, by omega, by omega, fun h => ⟨by omega, h4 h⟩⟩
      simp only [if_neg c2]
      exact Ev.now _
theorem szLayerS_l0 (l : List S98) (hb : l.length ≤ 1048576) (hw : ∀ x ∈ l, wf98 x) : ∀ (d i : Nat) (left : Int), i + d = l.length → 0 ≤ left → left ≤ 1048576 →
    ∃ r, Ev (fun k => laws_szLayerS.l0 k l left (i : Int)) r ∧ r ≤ left ∧ -1 ≤ r ∧ (0 ≤ r → ∀ x ∈ l.drop i, smallW x)
  | 0, i, left, h, h0, h1 => ⟨left, Ev.stepc (fun k => by
      simp only [laws_szLayerS.l0]
      rw [if_neg (by omega)]), Int.le_refl _, by omega, fun _ x hx => by rw [List.drop_eq_nil_of_le (by omega)] at hx; cases hx⟩
  | d + 1, i, left, h, h0, h1 => by
    obtain ⟨q, hq, hq1, hq2, hq3⟩ := szLayer_ev _ (hw _ (mem_rdW l i (by omega))) left h0 h1
    by_cases c : q < 0
    · refine ⟨-1, Ev.step (f := fun k => (laws_szLayer.f k (rd_T98 l (i : Int)).f0 (rd_T98 l (i : Int)).f1 (rd_T98 l (i : Int)).f2 left).bind fun t106 => (if t106 < 0 then (some (-1)) else (laws_szLayerS.l0 k l t106 ((i + 1 : Nat) : Int)))) (fun k => ?_) (Ev.bind hq ?_), by omega, by omega, fun h => by omega⟩
      · simp only [laws_szLayerS.l0]
        rw [if_pos (by omega), if_pos (by omega), wnat (by omega)]
      · simp only [if_pos c]
        exact Ev.now _
    · obtain ⟨r, hr, hr1, hr2, hr3⟩ := szLayerS_l0 l hb hw d (i + 1) q (by omega) (by omega) (by omega)
      refine ⟨r, Ev.step (f := fun k => (laws_szLayer.f k (rd_T98 l (i : Int)).f0 (rd_T98 l (i : Int)).f1 (rd_T98 l (i : Int)).f2 left).bind fun t106 => (if t106 < 0 then (some (-1)) else (laws_szLayerS.l0 k l t106 ((i + 1 : Nat) : Int)))) (fun k => ?_) (Ev.bind hq ?_), by omega, hr2, fun h x hx => ?_⟩
      · simp only [laws_szLayerS.l0]
        rw [if_pos (by omega), if_pos (by omega), wnat (by omega)]
      · simp only [if_neg c]
        exact hr
      · rw [drop_rdW l i (by omega)] at hx
        rcases List.mem_cons.1 hx with e | e
        · rw [e]
          exact hq3 (by omega)
        · exact hr3 h x e
/-- what szMarks tells: where it is not below 0, nothing is too long -/
theorem szMarks_ev (l : List S98) (hm : l.length ≤ maxLen) (hw : ∀ x ∈ l, wf98 x) (left : Int) (h0 : 0 ≤ left) (h1 : left ≤ 1048576) : ∃ r, Ev (fun k => laws_szMarks.f k l left) r ∧ r ≤ left ∧ (0 ≤ r → l.length ≤ 1048576 ∧ ∀ x ∈ l, smallW x) := by
  unfold maxLen at hm
  unfold laws_szMarks.f laws_szLayerS.f
  have e1 : wrap64 (left - (l.length : Int)) = left - (l.length : Int) := w64 (by omega) (by omega)
  rw [e1]
  by_cases c : left - (l.length : Int) < 0
  · refine ⟨-1, ?_, by omega, fun h => by omega⟩
    simp only [if_pos c, Option.bind_some, if_pos (show (-1 : Int) < 0 by omega)]
    exact Ev.now _
  · simp only [if_neg c]
    obtain ⟨r, hr, h2, h3, h4⟩ := szLayerS_l0 l (by omega) hw l.length 0 (left - (l.length : Int)) (by omega) (by omega) (by omega)
    by_cases c2 : r < 0
    · refine ⟨-1, Ev.bind hr ?_, by omega, fun h => by omega⟩
      simp only [if_pos c2]
      exact Ev.now _
    · refine ⟨r, Ev.bind hr ?_, by omega, fun h => ⟨by omega, fun x hx => h4 h x (by simpa using hx)⟩⟩
      simp only [if_neg c2]
      exact Ev.now _

end Go.Proofs.Ythhnmdemmogjaaa.Pure

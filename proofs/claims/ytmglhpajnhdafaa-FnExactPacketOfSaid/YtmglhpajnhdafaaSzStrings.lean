/- Plain lemmas on what the printed functions answer: numbers and lists alone. -/
import Derived.Test.YtmglhpajnhdafaaPPx1
import Derived.Test.YtmglhpajnhdafaaStringS
namespace Go.Proofs.Ytmglhpajnhdafaa.Pure
open Go.RowKit Go.Proofs.Ytmglhpajnhdafaa.PP Go.Proofs.YtmglhpajnhdafaaW.PrintWords Go.Proofs.YtmglhpajnhdafaaW.PrintLast
set_option linter.unusedVariables false
set_option linter.unusedSimpArgs false

theorem szStringS_l0' (l : List ByteArray) (hb : l.length ≤ 1048576) (hw : ∀ x ∈ l, x.size ≤ maxLen) : ∀ (d i : Nat) (left : Int), i + d = l.length → 0 ≤ left → left ≤ 1048576 →
    ∃ r, Ev (fun k => laws_szStringS.l0 k l left (i : Int)) r ∧ r ≤ left ∧ -1 ≤ r
  | 0, i, left, h, h0, h1 => ⟨left, Ev.stepc (fun k => by
      simp only [laws_szStringS.l0]
      rw [if_neg (by omega)]), Int.le_refl _, by omega⟩
  | d + 1, i, left, h, h0, h1 => by
    have hm : rdOf ByteArray.empty l (i : Int) ∈ l := by
      have e : rdOf ByteArray.empty l (i : Int) = l[i]'(by omega) := by
        rw [rdT_nat, List.getD_eq_getElem?_getD, List.getElem?_eq_getElem (by omega)]
        rfl
      rw [e]
      exact List.getElem_mem _
    have hs := hw _ hm
    unfold maxLen at hs
    have e1 : wrap64 (left - ((rdOf ByteArray.empty l (i : Int)).size : Int)) = left - ((rdOf ByteArray.empty l (i : Int)).size : Int) := w64 (by omega) (by omega)
    by_cases c : left - ((rdOf ByteArray.empty l (i : Int)).size : Int) < 0
    · refine ⟨-1, Ev.stepc (fun k => ?_), by omega, by omega⟩
      simp only [laws_szStringS.l0]
      rw [if_pos (by omega), if_pos (by omega), e1, if_pos c]
    · obtain ⟨r, hr, hx⟩ := szStringS_l0' l hb hw d (i + 1) (left - ((rdOf ByteArray.empty l (i : Int)).size : Int)) (by omega) (by omega) (by omega)
      refine ⟨r, Ev.step (fun k => ?_) hr, by omega⟩
      simp only [laws_szStringS.l0]
      rw [if_pos (by omega), if_pos (by omega), e1, if_neg c, wnat (by omega)]
theorem szStringS_ev' (l : List ByteArray) (hm : l.length ≤ maxLen) (hw : ∀ x ∈ l, x.size ≤ maxLen) (left : Int) (h0 : 0 ≤ left) (h1 : left ≤ 1048576) : ∃ r, Ev (fun k => laws_szStringS.f k l left) r ∧ r ≤ left ∧ -1 ≤ r ∧ (0 ≤ r → l.length ≤ 1048576) := by
  unfold maxLen at hm
  unfold laws_szStringS.f
  have e1 : wrap64 (left - (l.length : Int)) = left - (l.length : Int) := w64 (by omega) (by omega)
  rw [e1]
  by_cases c : left - (l.length : Int) < 0
  · simp only [if_pos c]
    exact ⟨-1, Ev.now _, by omega, by omega, fun h => by omega⟩
  · simp only [if_neg c]
    obtain ⟨r, hr, h2, h3⟩ := szStringS_l0' l (by omega) hw l.length 0 (left - (l.length : Int)) (by omega) (by omega) (by omega)
    exact ⟨r, hr, by omega, h3, fun _ => by omega⟩

end Go.Proofs.Ytmglhpajnhdafaa.Pure

/- The program's ThenDelta returns what the reference's returns: for all arguments, with no condition. -/
import Derived.Test.YtlfgkodipeofiaaPFx0
import Derived.Test.YtlfgkodipeofiaaPFx1
import Derived.Test.YtlfgkodipeofiaaPFx3
import Derived.Test.YtlfgkodipeofiaaPFx4
import Derived.Test.YtlfgkodipeofiaaPFx5
import Derived.Test.YtlfgkodipeofiaaPFx6
import Derived.Test.YtlfgkodipeofiaaDeltas
import Derived.Test.YtlfgkodipeofiaaParts
import Derived.Test.YtlfgkodipeofiaaPartMarks
namespace Go.Proofs.Ytlfgkodipeofiaa.Pure
open Go.RowKit Go.Proofs.Ytlfgkodipeofiaa.PF Go.Proofs.YtlfgkodipeofiaaW.PrintWords Go.Proofs.YtlfgkodipeofiaaW.PrintLast
set_option linter.unusedVariables false
set_option linter.unusedSimpArgs false

theorem Ev.uniq {α : Type} {g : Nat → Option α} {a b : α} (h : Ev g a) (h' : Ev g b) : a = b := by
  obtain ⟨K, h⟩ := h
  obtain ⟨K', h'⟩ := h'
  have e := (h (max K K') (by omega)).symm.trans (h' (max K K') (by omega))
  exact Option.some.inj e
theorem szPart_le (l : List S58) (hb : l.length ≤ 1048576) (hw : ∀ x ∈ l, wf58 x) : ∀ (d i : Nat) (left : Int), i + d = l.length → 0 ≤ left → left ≤ 1048576 →
    ∃ r, Ev (fun k => laws_szPartS.l0 k l left (i : Int)) r ∧ r ≤ left
  | 0, i, left, h, h0, h1 => ⟨left, Ev.stepc (fun k => by
      simp only [laws_szPartS.l0]
      rw [if_neg (by omega)]), Int.le_refl _⟩
  | d + 1, i, left, h, h0, h1 => by
    have hs : ((rd_T58 l (i : Int)).f2).size ≤ maxLen := (hw _ (mem_rd58 l i (by omega))).2.2
    unfold maxLen at hs
    have e1 : wrap64 (left - (((rd_T58 l (i : Int)).f2).size : Int)) = left - (((rd_T58 l (i : Int)).f2).size : Int) := w64 (by omega) (by omega)
    by_cases c : left - (((rd_T58 l (i : Int)).f2).size : Int) < 0
    · refine ⟨-1, Ev.stepc (fun k => ?_), by omega⟩
      simp only [laws_szPartS.l0, laws_szPart.f]
      rw [if_pos (by omega), if_pos (by omega), e1, if_pos c, Option.bind_some, if_pos (by omega)]
    · obtain ⟨r, hr, hx⟩ := szPart_le l hb hw d (i + 1) (left - (((rd_T58 l (i : Int)).f2).size : Int)) (by omega) (by omega) (by omega)
      refine ⟨r, Ev.step (fun k => ?_) hr, by omega⟩
      simp only [laws_szPartS.l0, laws_szPart.f]
      rw [if_pos (by omega), if_pos (by omega), e1, if_neg c, Option.bind_some, if_neg c, wnat (by omega)]
/-- what szPartS tells, from any number on -/
theorem szPart_evL (l : List S58) (hm : l.length ≤ maxLen) (hw : ∀ x ∈ l, wf58 x) (left : Int) (h0 : 0 ≤ left) (h1 : left ≤ 1048576) : ∃ r, Ev (fun k => laws_szPartS.f k l left) r ∧ r ≤ left ∧ (0 ≤ r → l.length ≤ 1048576) := by
  unfold maxLen at hm
  unfold laws_szPartS.f
  have e1 : wrap64 (left - (l.length : Int)) = left - (l.length : Int) := w64 (by omega) (by omega)
  by_cases c : left - (l.length : Int) < 0
  · refine ⟨-1, ?_, by omega, fun h => by omega⟩
    rw [e1]
    simp only [if_pos c]
    exact Ev.now _
  · obtain ⟨r, hr, hx⟩ := szPart_le l (by omega) hw l.length 0 (left - (l.length : Int)) (by omega) (by omega) (by omega)
    refine ⟨r, ?_, by omega, fun h => by omega⟩
    rw [e1]
    simp only [if_neg c]
    exact hr
theorem impl_apply2_ev (s : ByteArray) (hs : s.size ≤ 1048576) (l : List (S59)) (hl : l.length ≤ 1048576) (hw : ∀ x ∈ l, wfP x) : Ev (fun k => impl_ApplyDelta.f k s l) (if deltaB s.size l = true then (applyV s ⟨#[]⟩ l, true) else (⟨#[]⟩, false)) := by
  unfold impl_ApplyDelta.f
  have g2 := impl_good_ev s hs l hl hw
  cases c3 : deltaB s.size l with
  | false =>
    rw [c3] at g2
    exact Ev.bind g2 (by simpa using Ev.now _)
  | true =>
    rw [c3] at g2
    have hg : l.all (partB s.size) = true := by
      unfold deltaB at c3
      simp only [Bool.and_eq_true] at c3
      exact c3.2.2.1
    exact Ev.bind g2 (by simp only [if_true]; exact Ev.bind (impl_apply_ev s hs l hl hg) (Ev.now _))
theorem deltaB_size (s : ByteArray) (l : List (S59)) (h : deltaB s.size l = true) : l.all (partB s.size) = true ∧ (applyV s ⟨#[]⟩ l).size ≤ 120 ∧ s.size ≤ 120 := by
  unfold deltaB at h
  simp only [Bool.and_eq_true, decide_eq_true_eq] at h
  obtain ⟨h1, h2, h3, h4⟩ := h
  have h5 := applyV_size s l ⟨#[]⟩ h3
  rw [show ((⟨#[]⟩ : ByteArray).size : Int) = 0 from rfl] at h5
  exact ⟨h3, by omega, by omega⟩
theorem FnExactThenDelta : laws_FnExactThenDelta.Pure := by
  intro s a b hs ⟨ha, hwa⟩ ⟨hb, hwb⟩
  suffices h : Ev (fun k => laws_FnExactThenDelta.f k s a b) true from h.rounds
  unfold laws_FnExactThenDelta.f
  by_cases c1 : (s.size : Int) > 1048576
  · simp only [if_pos c1]
    exact Ev.now true
  · simp only [if_neg c1]
    obtain ⟨r, hr, hr1, hr2⟩ := szPart_evL a ha hwa 1048576 (by omega) (by omega)
    refine Ev.bind hr ?_
    by_cases c2 : r < 0
    · simp only [if_pos c2]
      exact Ev.now true
    · simp only [if_neg c2]
      obtain ⟨q, hq, hq1, hq2⟩ := szPart_evL b hb hwb r (by omega) hr1
      refine Ev.bind hq ?_
      by_cases c3 : q < 0
      · simp only [if_pos c3]
        exact Ev.now true
      · simp only [if_neg c3]
        have hla := hr2 (by omega)
        have hlb := hq2 (by omega)
        have ta := toPartS_ev a hla
        have tb := toPartS_ev b hlb
        have hwA := wfP_cv a hwa
        have hwB := wfP_cv b hwb
        have hA : (a.map cvPart).length ≤ 1048576 := by simpa using hla
        have hB : (b.map cvPart).length ≤ 1048576 := by simpa using hlb
        obtain ⟨L, f, hn, h1, h2⟩ : ∃ (L : List S59) (f : Bool), L.length ≤ 1048576 ∧ Ev (fun k => spec_ThenDelta.f k s (a.map cvPart) (b.map cvPart)) (L, f) ∧ Ev (fun k => impl_ThenDelta.f k s (a.map cvPart) (b.map cvPart)) (L, f) := by
          unfold spec_ThenDelta.f impl_ThenDelta.f
          have g1 := spec_good_ev s (by omega) _ hA hwA
          have g2 := impl_apply2_ev s (by omega) _ hA hwA
          have jt : Ev (fun k => spec_ThenDelta.j0 k s (a.map cvPart) (b.map cvPart) true) (([] : List S59), false) := Ev.stepc (fun k => by simp [spec_ThenDelta.j0])
          cases d1 : deltaB s.size (a.map cvPart) with
          | false =>
            rw [d1] at g1 g2
            exact ⟨[], false, by simp, Ev.bind g1 (by simpa using jt), Ev.bind g2 (by simpa using Ev.now _)⟩
          | true =>
            rw [d1] at g1 g2
            obtain ⟨e1, e2, e3⟩ := deltaB_size _ _ d1
            simp only [if_true] at g2
            have g3 := spec_apply_ev s (by omega) _ hA e1
            generalize hT : applyV s ⟨#[]⟩ (a.map cvPart) = T at g2 g3 e2
            have g4 := spec_good_ev T (by omega) _ hB hwB
            have g5 := impl_apply2_ev T (by omega) _ hB hwB
            cases d2 : deltaB T.size (b.map cvPart) with
            | false =>
              rw [d2] at g4 g5
              exact ⟨[], false, by simp, Ev.bind g1 (by simp only [if_true]; exact Ev.bind g3 (Ev.bind g4 (by simpa using jt))), Ev.bind g2 (by simp only [if_true]; exact Ev.bind g5 (by simpa using Ev.now _))⟩
            | true =>
              rw [d2] at g4 g5
              obtain ⟨e4, e5, _⟩ := deltaB_size _ _ d2
              simp only [if_true] at g5
              have g6 := spec_apply_ev T (by omega) _ hB e4
              generalize applyV T ⟨#[]⟩ (b.map cvPart) = U at g5 g6 e5
              obtain ⟨R, hR, k1, k2⟩ := delta_ev s U (by omega) e5
              refine ⟨R, true, by omega, Ev.bind g1 ?_, Ev.bind g2 ?_⟩
              · simp only [if_true]
                refine Ev.bind g3 (Ev.bind g4 ?_)
                simp only [Bool.not_true]
                refine Ev.step (f := fun k => (spec_l11Apply.f k s (a.map cvPart)).bind fun t160 => ((spec_l11Apply.f k t160 (b.map cvPart)).bind fun t161 => ((spec_l11Delta.f k s t161).bind fun t162 => (some (t162, true))))) (fun k => ?_) (Ev.bind g3 (Ev.bind g6 (Ev.bind k1 (Ev.now _))))
                simp only [spec_ThenDelta.j0]
                rw [if_neg (by decide)]
              · simp only [if_true]
                refine Ev.bind g5 ?_
                simp only [if_true]
                exact Ev.bind k2 (Ev.now _)
        have t1 := eqPartS_self L (by omega)
        have tA := eqPartS_self (a.map cvPart) (by omega)
        have tB := eqPartS_self (b.map cvPart) (by omega)
        have mA := markPartS_ev (a.map cvPart) 1 (by omega) (by omega) (by omega)
        have mB := markPartS_ev (b.map cvPart) (1 + 3 * ((a.map cvPart).length : Int)) (by omega) (by omega) (by omega)
        have t2 := markPartS_ev L 1 (by omega) (by omega) (by omega)
        have t3 := heldPartS_ev L.length 1 (by omega) (by omega) (by omega)
        have c4 : ¬ 1 + 3 * (L.length : Int) < 0 := by omega
        have c5 : ¬ 1 + 3 * ((a.map cvPart).length : Int) + 3 * ((b.map cvPart).length : Int) < 0 := by omega
        refine Ev.bind ta (Ev.bind tb (Ev.bind h1 (Ev.bind ta (Ev.bind tb (Ev.bind h2 (Ev.bind t1 ?_))))))
        simp only [if_true, bne_self_eq_false]
        refine Ev.step (fun k => by rw [laws_FnExactThenDelta.j0]) ?_
        simp only [Bool.false_eq_true, if_false]
        refine Ev.bind ta (Ev.bind tA ?_)
        simp only [if_true]
        refine Ev.bind tb (Ev.bind tB ?_)
        simp only [if_true]
        refine Ev.bind mA (Ev.bind mB ?_)
        simp only [if_neg c5]
        refine Ev.bind t1 ?_
        simp only [if_true, bne_self_eq_false]
        refine Ev.step (fun k => by rw [laws_FnExactThenDelta.j1]) ?_
        simp only [Bool.false_eq_true, if_false]
        refine Ev.bind t2 (Ev.bind t3 ?_)
        simp only [if_neg c4, if_true]
        refine Ev.bind ta (Ev.bind tb (Ev.bind h2 (Ev.bind t1 ?_)))
        simp only [if_true, bne_self_eq_false]
        refine Ev.step (fun k => by rw [laws_FnExactThenDelta.j2]) ?_
        simp only [Bool.false_eq_true, if_false]
        refine Ev.bind t3 ?_
        simp only [if_neg c4, if_true]
        exact Ev.now true

end Go.Proofs.Ytlfgkodipeofiaa.Pure

/- The program's TornSegment returns what the reference's returns: for all arguments, with no condition. -/
import Derived.Test.YtjpeedbabjaidaaPBx5
import Derived.Test.YtjpeedbabjaidaaAlls
namespace Go.Proofs.Ytjpeedbabjaidaa.Pure
open Go.RowKit Go.Proofs.Ytjpeedbabjaidaa.PB Go.Proofs.YtjpeedbabjaidaaW.PrintWords Go.Proofs.YtjpeedbabjaidaaW.PrintLast
set_option linter.unusedVariables false
set_option linter.unusedSimpArgs false

theorem FnExactTornSegment : laws_FnExactTornSegment.Pure := by
  intro x a hx0 ha
  suffices h : Ev (fun k => laws_FnExactTornSegment.f k x a) true from h.rounds
  unfold laws_FnExactTornSegment.f
  by_cases c0 : (x.size : Int) > 1048576
  · simp only [if_pos c0]
    exact Ev.now _
  · simp only [if_neg c0]
    obtain ⟨s, b, h1, h2⟩ : ∃ (s : ByteArray) (b : Bool), Ev (fun k => spec_TornSegment.f k x a) (s, b) ∧ Ev (fun k => impl_TornSegment.f k x a) (s, b) := by
      unfold spec_TornSegment.f impl_TornSegment.f
      simp only [within_eq, in_eq, Option.bind_some]
      by_cases c1 : (x.size : Int) > 300
      · simp only [if_pos c1]
        exact ⟨_, _, Ev.now _, Ev.now _⟩
      · simp only [if_neg c1]
        by_cases c2 : 0 ≤ a
        · by_cases c3 : a ≤ (x.size : Int)
          · obtain ⟨L, e, h3, _, h5, h6⟩ := segs_ev (x.extract 0 a.toNat) (by rw [ByteArray.size_extract]; omega)
            rw [ByteArray.size_extract] at h3
            have d1 : (0 : Int) ≤ (e : Int) := by omega
            have d2 : (e : Int) ≤ (x.size : Int) := by omega
            simp only [decide_eq_true c2, decide_eq_true c3, Bool.and_self, if_true, if_pos c2, if_pos c3]
            refine ⟨x.extract 0 ((e : Int)).toNat, true, Ev.bind h5 ?_, Ev.bind h6 ?_⟩
            · simp only [if_pos d1, if_pos d2]
              exact Ev.now _
            · simp only [if_pos d1, if_pos d2]
              exact Ev.now _
          · simp only [decide_eq_false c3, Bool.and_false, Bool.false_eq_true, if_false]
            exact ⟨_, _, Ev.now _, Ev.now _⟩
        · simp only [decide_eq_false c2, Bool.false_and, Bool.false_eq_true, if_false]
          exact ⟨_, _, Ev.now _, Ev.now _⟩
    refine Ev.bind h1 (Ev.bind h2 ?_)
    simp only [if_true, bne_self_eq_false, Bool.false_eq_true, if_false]
    exact Ev.now _

end Go.Proofs.Ytjpeedbabjaidaa.Pure

/- The program's SegmentText returns what the reference's returns: for all arguments, with no condition. -/
import Derived.Test.YtjpeedbabjaidaaPAx2
import Derived.Test.YtjpeedbabjaidaaPAx3
import Derived.Test.YtjpeedbabjaidaaPAx4
import Derived.Test.YtjpeedbabjaidaaSegs
namespace Go.Proofs.Ytjpeedbabjaidaa.Pure
open Go.RowKit Go.Proofs.Ytjpeedbabjaidaa.PA Go.Proofs.YtjpeedbabjaidaaW.PrintWords Go.Proofs.YtjpeedbabjaidaaW.PrintLast
set_option linter.unusedVariables false
set_option linter.unusedSimpArgs false

theorem FnExactSegmentText : laws_FnExactSegmentText.Pure := by
  intro l ⟨hl, hw⟩
  suffices h : Ev (fun k => laws_FnExactSegmentText.f k l) true from h.rounds
  unfold laws_FnExactSegmentText.f
  obtain ⟨r, hr, hr2⟩ := szRecordS_ev l hl hw
  refine Ev.bind hr ?_
  by_cases c2 : r < 0
  · simp only [if_pos c2]
    exact Ev.now true
  · simp only [if_neg c2]
    have hl2 := (hr2 (by omega)).1
    have t := toRecordS_ev l hl2
    have hl3 : (l.map cvRecord).length ≤ 1048576 := by simpa using hl2
    obtain ⟨s, b, h1, h2⟩ : ∃ (s : ByteArray) (b : Bool), Ev (fun k => spec_SegmentText.f k (l.map cvRecord)) (s, b) ∧ Ev (fun k => impl_SegmentText.f k (l.map cvRecord)) (s, b) := by
      revert hl3
      generalize l.map cvRecord = L
      intro hl3
      unfold spec_SegmentText.f impl_SegmentText.f
      simp only [impl_goods, Option.bind_some]
      have g := spec_goods L hl3
      cases hg : L.all goodR with
      | false =>
        rw [hg] at g
        refine ⟨⟨#[]⟩, false, Ev.bind g (by simpa using Ev.now _), ?_⟩
        by_cases c : (L.length : Int) > 300
        · simp only [if_pos c]; exact Ev.now _
        · simp only [if_neg c]; simpa using Ev.now _
      | true =>
        rw [hg] at g
        have hs := segV_size L ⟨#[]⟩ hg
        rw [show (⟨#[]⟩ : ByteArray).size = 0 from rfl] at hs
        by_cases c3 : ((segV ⟨#[]⟩ L).size : Int) > 300
        · refine ⟨⟨#[]⟩, false, Ev.bind g (by simp only [if_true]; exact Ev.bind (spec_seg L hl3 hg) (by simp only [if_pos c3]; exact Ev.now _)), ?_⟩
          by_cases c : (L.length : Int) > 300
          · simp only [if_pos c]; exact Ev.now _
          · simp only [if_neg c, if_true]; exact Ev.bind (impl_seg L hl3 hg) (by simp only [if_pos c3]; exact Ev.now _)
        · refine ⟨segV ⟨#[]⟩ L, true, Ev.bind g (by simp only [if_true]; exact Ev.bind (spec_seg L hl3 hg) (by simp only [if_neg c3]; exact Ev.now _)), ?_⟩
          have c : ¬ (L.length : Int) > 300 := by omega
          simp only [if_neg c, if_true]; exact Ev.bind (impl_seg L hl3 hg) (by simp only [if_neg c3]; exact Ev.now _)
    refine Ev.bind t (Ev.bind h1 (Ev.bind t (Ev.bind h2 ?_)))
    simp only [bne_self_eq_false, if_true]
    refine Ev.step (fun k => by rw [laws_FnExactSegmentText.j0]) ?_
    simp only [Bool.false_eq_true, if_false]
    refine Ev.bind t (Ev.bind (eqRecordS_self _ (by omega)) ?_)
    exact Ev.now true

end Go.Proofs.Ytjpeedbabjaidaa.Pure

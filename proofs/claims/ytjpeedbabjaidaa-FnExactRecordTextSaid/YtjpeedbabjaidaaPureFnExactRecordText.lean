/- The program's RecordText returns what the reference's returns: for all arguments, with no condition. -/
import Derived.Test.YtjpeedbabjaidaaPAx1
import Derived.Test.YtjpeedbabjaidaaPAx2
import Derived.Test.YtjpeedbabjaidaaTexts
namespace Go.Proofs.Ytjpeedbabjaidaa.Pure
open Go.RowKit Go.Proofs.Ytjpeedbabjaidaa.PA Go.Proofs.YtjpeedbabjaidaaW.PrintWords Go.Proofs.YtjpeedbabjaidaaW.PrintLast
set_option linter.unusedVariables false
set_option linter.unusedSimpArgs false

theorem FnExactRecordText : laws_FnExactRecordText.Pure := by
  intro a b c d ⟨_, _, _, hd⟩
  suffices h : Ev (fun k => laws_FnExactRecordText.f k a b c d) true from h.rounds
  unfold laws_FnExactRecordText.f laws_szRecord.f laws_toRecord.f
  have hd : d.size ≤ maxLen := hd
  unfold maxLen at hd
  have g1 := spec_good a b c d
  have g2 := impl_good a b c d
  by_cases c1 : wrap64 (1048576 - (d.size : Int)) < 0
  · simp only [if_pos c1, Option.bind_some]
    exact Ev.now _
  · simp only [if_neg c1, Option.bind_some]
    obtain ⟨t, q, h1, h2⟩ : ∃ (t : ByteArray) (q : Bool), Ev (fun k => spec_RecordText.f k a b c d) (t, q) ∧ impl_RecordText.f a b c d = some (t, q) := by
      unfold spec_RecordText.f impl_RecordText.f
      simp only [g1, g2, Option.bind_some]
      cases hg : goodB a b c d with
      | false => exact ⟨_, _, by simpa using Ev.now _, rfl⟩
      | true =>
        have hs := good_size hg
        simp only [if_true]
        exact ⟨_, _, Ev.bind (spec_text a b c d (by clear g1 g2 c1; omega)) (Ev.now _), by rw [impl_text a b c d (by clear g1 g2 c1; omega)]; rfl⟩
    refine Ev.bind h1 ?_
    simp only [h2, Option.bind_some, if_true, bne_self_eq_false, Bool.false_eq_true, if_false]
    exact Ev.now _

end Go.Proofs.Ytjpeedbabjaidaa.Pure

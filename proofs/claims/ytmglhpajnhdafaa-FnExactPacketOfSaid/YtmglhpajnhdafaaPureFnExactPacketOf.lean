/- The program's PacketOf returns what the reference's returns: for all arguments, with no condition. -/
import Derived.Test.YtmglhpajnhdafaaPPx2
import Derived.Test.YtmglhpajnhdafaaPPx3
import Derived.Test.YtmglhpajnhdafaaSzStrings
import Derived.Test.YtmglhpajnhdafaaToStrings
import Derived.Test.YtmglhpajnhdafaaEqStrings
import Derived.Test.YtmglhpajnhdafaaSourceSums
namespace Go.Proofs.Ytmglhpajnhdafaa.Pure
open Go.RowKit Go.Proofs.Ytmglhpajnhdafaa.PP Go.Proofs.YtmglhpajnhdafaaW.PrintWords Go.Proofs.YtmglhpajnhdafaaW.PrintLast
set_option linter.unusedVariables false
set_option linter.unusedSimpArgs false

theorem FnExactPacketOf : laws_FnExactPacketOf.Pure := by
  intro l m ⟨hl, hw⟩ hm
  suffices h : Ev (fun k => laws_FnExactPacketOf.f k l m) true from h.rounds
  unfold laws_FnExactPacketOf.f
  obtain ⟨r, hr, _, _, hr2⟩ := szStringS_ev' l hl hw 1048576 (by omega) (by omega)
  refine Ev.bind hr ?_
  by_cases c2 : r < 0
  · simp only [if_pos c2]
    exact Ev.now true
  · simp only [if_neg c2]
    have hl2 := hr2 (by omega)
    have t := toStringS_ev l hl2
    obtain ⟨q, h1, h2⟩ := packet_both l m hl2
    refine Ev.bind t (Ev.bind h2 (Ev.bind t (Ev.bind h1 ?_)))
    have e : laws_eqPacket.f q.1 q.2.1 q.1 q.2.1 = some true := by
      unfold laws_eqPacket.f
      rw [if_pos rfl, if_pos rfl]
    simp only [e, Option.bind_some, if_true, bne_self_eq_false]
    refine Ev.step (fun k => by rw [laws_FnExactPacketOf.j0]) ?_
    simp only [Bool.false_eq_true, if_false]
    refine Ev.bind t (Ev.bind (eqStringS_self l (by omega)) ?_)
    simp only [if_true]
    exact Ev.now _

end Go.Proofs.Ytmglhpajnhdafaa.Pure

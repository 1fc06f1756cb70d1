/- The program's ResetZone returns what the reference's returns: for all arguments, with no condition. -/
import Derived.Test.YtncckighbgbboaaPBx3
import Derived.Test.YtncckighbgbboaaPBx4
import Derived.Test.YtncckighbgbboaaPBx5
import Derived.Test.YtncckighbgbboaaZones
namespace Go.Proofs.Ytncckighbgbboaa.Pure
open Go.RowKit Go.Proofs.Ytncckighbgbboaa.PB Go.Proofs.YtncckighbgbboaaW.PrintWords Go.Proofs.YtncckighbgbboaaW.PrintLast
set_option linter.unusedVariables false
set_option linter.unusedSimpArgs false

def resetV (l : List Z) (a : Int) : List Z × Bool := if thereB l a = true then (l.set a.toNat ⟨⟨#[]⟩, 0, false⟩, true) else ([], false)
theorem resetV_len (l : List Z) (a : Int) (hl : l.length ≤ 1048576) : (resetV l a).1.length ≤ 1048576 := by
  unfold resetV
  split <;> simp <;> omega
theorem spec_reset_ev (l : List Z) (hl : l.length ≤ 1048576) (a : Int) : Ev (fun k => spec_ResetZone.f k l a) (resetV l a) := by
  unfold spec_ResetZone.f resetV
  refine Ev.bind (spec_there_ev l hl a) ?_
  cases h : thereB l a with
  | false => simpa using Ev.now _
  | true =>
    obtain ⟨h1, h2⟩ := thereB_bd h
    simp only [if_true, specOwn_eq l hl, Option.bind_some, if_pos h1, if_pos h2]
    exact Ev.now _
theorem impl_reset_ev (l : List Z) (hl : l.length ≤ 1048576) (a : Int) : Ev (fun k => impl_ResetZone.f k l a) (resetV l a) := by
  unfold impl_ResetZone.f resetV
  refine Ev.bind (impl_there_ev l hl a) ?_
  cases h : thereB l a with
  | false => simpa using Ev.now _
  | true =>
    obtain ⟨h1, h2⟩ := thereB_bd h
    simp only [if_true, implOwn_eq l hl, Option.bind_some, if_pos h1, if_pos h2]
    exact Ev.now _
theorem FnExactResetZone : laws_FnExactResetZone.Pure := by
  intro l a ⟨hl, hw⟩ _
  suffices h : Ev (fun k => laws_FnExactResetZone.f k l a) true from h.rounds
  unfold laws_FnExactResetZone.f
  obtain ⟨r, hr, hr2⟩ := szDevice_ev l hl hw
  refine Ev.bind hr ?_
  by_cases c2 : r < 0
  · simp only [if_pos c2]
    exact Ev.now true
  · simp only [if_neg c2]
    have hl2 := hr2 (by omega)
    have t := toDevice_ev l hl2
    have hl3 : (l.map cvZone).length ≤ 1048576 := by simpa using hl2
    have h1 := spec_reset_ev _ hl3 a
    have h2 := impl_reset_ev _ hl3 a
    have hn := resetV_len _ a hl3
    revert h1 h2 hn
    generalize resetV (l.map cvZone) a = q
    intro h1 h2 hn
    obtain ⟨L, b⟩ := q
    refine Ev.bind t (Ev.bind h1 (Ev.bind t (Ev.bind h2 ?_)))
    refine Ev.bind (eqDevice_self L hn) ?_
    simp only [bne_self_eq_false, if_true]
    refine Ev.step (fun k => by rw [laws_FnExactResetZone.j0]) ?_
    simp only [Bool.false_eq_true, if_false]
    refine Ev.bind t (Ev.bind (eqDevice_self _ hl3) ?_)
    simp only [if_true]
    refine Ev.bind (markDevice_ev _ hl3) ?_
    simp only [if_neg (show ¬ 1 + 3 * ((l.map cvZone).length : Int) < 0 by omega)]
    refine Ev.bind (eqDevice_self L hn) ?_
    simp only [bne_self_eq_false, if_true]
    refine Ev.step (fun k => by rw [laws_FnExactResetZone.j1]) ?_
    simp only [Bool.false_eq_true, if_false]
    refine Ev.bind (markDevice_ev L hn) ?_
    refine Ev.bind (heldDevice_ev L.length hn) ?_
    simp only [if_neg (show ¬ 1 + 3 * (L.length : Int) < 0 by omega), if_true]
    refine Ev.bind t (Ev.bind h2 (Ev.bind (eqDevice_self L hn) ?_))
    simp only [bne_self_eq_false, if_true]
    refine Ev.step (fun k => by rw [laws_FnExactResetZone.j2]) ?_
    simp only [Bool.false_eq_true, if_false]
    refine Ev.bind (heldDevice_ev L.length hn) ?_
    simp only [if_neg (show ¬ 1 + 3 * (L.length : Int) < 0 by omega), if_true]
    exact Ev.now true

end Go.Proofs.Ytncckighbgbboaa.Pure

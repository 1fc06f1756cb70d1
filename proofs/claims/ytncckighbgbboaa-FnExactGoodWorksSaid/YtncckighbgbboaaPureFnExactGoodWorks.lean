/- The program's GoodWorks returns what the reference's returns: for all arguments, with no condition. -/
import Derived.Test.YtncckighbgbboaaPCx0
import Derived.Test.YtncckighbgbboaaPCx2
import Derived.Test.YtncckighbgbboaaPCx3
import Derived.Test.YtncckighbgbboaaPCx4
import Derived.Test.YtncckighbgbboaaPCx5
import Derived.Test.YtncckighbgbboaaPCx6
import Derived.Test.YtncckighbgbboaaPCx8
import Derived.Test.YtncckighbgbboaaPCx9
import Derived.Test.YtncckighbgbboaaNotes
import Derived.Test.YtncckighbgbboaaToInts
import Derived.Test.YtncckighbgbboaaEqInts
namespace Go.Proofs.Ytncckighbgbboaa.Pure
open Go.RowKit Go.Proofs.Ytncckighbgbboaa.PC Go.Proofs.YtncckighbgbboaaW.PrintWords Go.Proofs.YtncckighbgbboaaW.PrintLast
set_option linter.unusedVariables false
set_option linter.unusedSimpArgs false

theorem spec_notes (l : List W) (hl : l.length ≤ 1048576) (a b : List Int) (s : Int) (o : List Int) (R : Bool) (h : l.all noteB = true → Ev (fun k => (spec_l14Cells.f k a).bind fun t138 => (if t138 = true then ((spec_l14Cells.f k b).bind fun t139 => (if t139 = true then (if (l.length : Int) ≤ 60 then ((spec_l1In.f s 0 (l.length : Int)).bind fun t140 => (if t140 = true then ((spec_l14Open.f k l).bind fun t141 => ((spec_l1Same.f k o t141).bind fun t144 => (some t144))) else (some false))) else (some false)) else (some false))) else (some false))) R) (hf : l.all noteB = false → R = false) :
    ∀ (d i : Nat), i + d = l.length → ((l.take i).all noteB = true) → Ev (fun k => spec_GoodWorks.l0 k l (l.length : Int) (i : Int) a b l s o) R
  | 0, i, e, ht => by
    rw [List.take_of_length_le (by omega)] at ht
    refine Ev.step (fun k => ?_) (h ht)
    rw [spec_GoodWorks.l0, if_neg (by omega)]
  | d + 1, i, e, ht => by
    cases hz : noteB (rd_T90 l (i : Int)) with
    | true =>
      have ih := spec_notes l hl a b s o R h hf d (i + 1) (by omega) (by rw [take_rd90 l i (by omega), List.all_append, ht]; simp [hz])
      refine Ev.step (fun k => ?_) ih
      rw [spec_GoodWorks.l0, if_pos (by omega), if_pos (by omega), if_pos (by omega), specNote, hz, Option.bind_some, if_pos rfl, wnat (by omega)]
    | false =>
      have : l.all noteB = false := by
        cases hb : l.all noteB with
        | false => rfl
        | true =>
          have := List.all_eq_true.1 hb _ (mem_rd90 l i (by omega))
          rw [hz] at this
          cases this
      rw [hf this]
      refine Ev.stepc (fun k => ?_)
      rw [spec_GoodWorks.l0, if_pos (by omega), if_pos (by omega), if_pos (by omega), specNote, hz, Option.bind_some]
      rfl
theorem works_ev (a b : List Int) (l : List W) (s : Int) (o : List Int) (ha : a.length ≤ 1048576) (hb : b.length ≤ 1048576) (hl : l.length ≤ 1048576) (ho : o.length ≤ 1048576) :
    ∃ v : Bool, Ev (fun k => spec_GoodWorks.f k a b l s o) v ∧ Ev (fun k => impl_GoodWorks.f k a b l s o) v := by
  unfold spec_GoodWorks.f impl_GoodWorks.f
  simp only [implCells, implNotes, within_eq, Option.bind_some]
  have ca := specCells a ha
  have cb := specCells b hb
  have sf : ∀ R, (l.all noteB = true → Ev (fun k => (spec_l14Cells.f k a).bind fun t138 => (if t138 = true then ((spec_l14Cells.f k b).bind fun t139 => (if t139 = true then (if (l.length : Int) ≤ 60 then ((spec_l1In.f s 0 (l.length : Int)).bind fun t140 => (if t140 = true then ((spec_l14Open.f k l).bind fun t141 => ((spec_l1Same.f k o t141).bind fun t144 => (some t144))) else (some false))) else (some false)) else (some false))) else (some false))) R) → (l.all noteB = false → R = false) → Ev (fun k => spec_GoodWorks.l0 k l (l.length : Int) 0 a b l s o) R := fun R h hf => spec_notes l hl a b s o R h hf l.length 0 (by omega) rfl
  cases h1 : cellsB a with
  | false =>
    rw [h1] at ca
    exact ⟨false, sf false (fun _ => Ev.bind ca (by simpa using Ev.now _)) (fun _ => rfl), by simpa using Ev.now _⟩
  | true =>
    rw [h1] at ca
    cases h2 : cellsB b with
    | false =>
      rw [h2] at cb
      exact ⟨false, sf false (fun _ => Ev.bind ca (by simp only [if_true]; exact Ev.bind cb (by simpa using Ev.now _))) (fun _ => rfl), by simpa using Ev.now _⟩
    | true =>
      rw [h2] at cb
      simp only [if_true]
      by_cases h3 : (l.length : Int) ≤ 60
      · simp only [if_pos h3]
        cases h4 : l.all noteB with
        | false => exact ⟨false, sf false (fun h => by rw [h4] at h; cases h) (fun _ => rfl), by simpa using Ev.now _⟩
        | true =>
          simp only [if_true]
          cases h5 : inB s 0 (l.length : Int) with
          | false => exact ⟨false, sf false (fun _ => Ev.bind ca (by simp only [if_true]; exact Ev.bind cb (by simp only [if_true, if_pos h3, in_eq, h5, Option.bind_some]; simpa using Ev.now _))) (fun _ => rfl), by simpa using Ev.now _⟩
          | true =>
            obtain ⟨L, _, o1, o2⟩ := opens_l0 l hl h4 9 [] (by omega) (by simp)
            obtain ⟨v, v1, v2⟩ := same_ev o L ho
            refine ⟨v, sf v (fun _ => Ev.bind ca (by simp only [if_true]; exact Ev.bind cb (by simp only [if_true, if_pos h3, in_eq, h5, Option.bind_some]; exact Ev.bind o1 (Ev.bind v1 (Ev.now _))))) (fun h => by rw [h4] at h; cases h), ?_⟩
            simp only [if_true]
            exact Ev.bind o2 (Ev.bind v2 (Ev.now _))
      · simp only [if_neg h3]
        exact ⟨false, sf false (fun _ => Ev.bind ca (by simp only [if_true]; exact Ev.bind cb (by simp only [if_true, if_neg h3]; exact Ev.now _))) (fun _ => rfl), Ev.now _⟩
theorem szI (l : List Int) (hm : l.length ≤ maxLen) (m : Int) (h0 : 0 ≤ m) (h1 : m ≤ 1048576) : ∃ r, laws_szIntS.f l m = some r ∧ (0 ≤ r → l.length ≤ 1048576 ∧ r ≤ 1048576) := by
  unfold maxLen at hm
  unfold laws_szIntS.f
  rw [w64 (by omega) (by omega)]
  by_cases c : m - (l.length : Int) < 0
  · exact ⟨-1, if_pos c, fun h => by omega⟩
  · exact ⟨m - (l.length : Int), if_neg c, fun h => by omega⟩
theorem szN (l : List (S116)) (hm : l.length ≤ maxLen) (m : Int) (h0 : 0 ≤ m) (h1 : m ≤ 1048576) : ∃ r, laws_szNoteS.f l m = some r ∧ (0 ≤ r → l.length ≤ 1048576 ∧ r ≤ 1048576) := by
  unfold maxLen at hm
  unfold laws_szNoteS.f
  rw [w64 (by omega) (by omega)]
  by_cases c : m - (l.length : Int) < 0
  · exact ⟨-1, if_pos c, fun h => by omega⟩
  · exact ⟨m - (l.length : Int), if_neg c, fun h => by omega⟩
theorem FnExactGoodWorks : laws_FnExactGoodWorks.Pure := by
  intro a b l s o hwf
  obtain ⟨⟨ha, _⟩, ⟨hb, _⟩, ⟨hl, _⟩, _, ⟨ho, _⟩⟩ := hwf
  suffices h : Ev (fun k => laws_FnExactGoodWorks.f k a b l s o) true from h.rounds
  unfold laws_FnExactGoodWorks.f laws_szWorks.f
  have neg1 : ((-1 : Int) < 0) := by decide
  obtain ⟨r1, e1, p1⟩ := szI a ha 1048576 (by omega) (by omega)
  by_cases c1 : r1 < 0
  · simp only [e1, Option.bind_some, if_pos c1, if_pos neg1]; exact Ev.now _
  obtain ⟨r2, e2, p2⟩ := szI b hb r1 (by omega) (p1 (by omega)).2
  by_cases c2 : r2 < 0
  · simp only [e1, e2, Option.bind_some, if_neg c1, if_pos c2, if_pos neg1]; exact Ev.now _
  obtain ⟨r3, e3, p3⟩ := szN l hl r2 (by omega) (p2 (by omega)).2
  by_cases c3 : r3 < 0
  · simp only [e1, e2, e3, Option.bind_some, if_neg c1, if_neg c2, if_pos c3, if_pos neg1]; exact Ev.now _
  obtain ⟨r4, e4, p4⟩ := szI o ho r3 (by omega) (p3 (by omega)).2
  by_cases c4 : r4 < 0
  · simp only [e1, e2, e3, e4, Option.bind_some, if_neg c1, if_neg c2, if_neg c3, if_pos c4, if_pos neg1]; exact Ev.now _
  simp only [e1, e2, e3, e4, Option.bind_some, if_neg c1, if_neg c2, if_neg c3, if_neg c4]
  have ha2 := (p1 (by omega)).1
  have hb2 := (p2 (by omega)).1
  have hl2 := (p3 (by omega)).1
  have ho2 := (p4 (by omega)).1
  have t : Ev (fun k => laws_toWorks.f k a b l s o) (a, b, l.map cvNote, s, o) := Ev.bind (toIntS_ev a (by omega)) (Ev.bind (toIntS_ev b (by omega)) (Ev.bind (toNoteS_ev l hl2) (Ev.bind (toIntS_ev o (by omega)) (Ev.now _))))
  have hl3 : (l.map cvNote).length ≤ 1048576 := by simpa using hl2
  obtain ⟨v, v1, v2⟩ := works_ev a b (l.map cvNote) s o ha2 hb2 hl3 ho2
  refine Ev.bind t (Ev.bind v1 (Ev.bind t (Ev.bind v2 ?_)))
  simp only [bne_self_eq_false, Bool.false_eq_true, if_false]
  refine Ev.bind t ?_
  refine Ev.bind (a := true) ?_ (Ev.now _)
  unfold laws_eqWorks.f
  refine Ev.bind (eqIntS_self a (by omega)) ?_
  simp only [if_true]
  refine Ev.bind (eqIntS_self b (by omega)) ?_
  simp only [if_true]
  refine Ev.bind (eqNoteS_self _ (by omega)) ?_
  simp only [if_true]
  refine Ev.bind (eqIntS_self o (by omega)) ?_
  simpa using Ev.now _

end Go.Proofs.Ytncckighbgbboaa.Pure

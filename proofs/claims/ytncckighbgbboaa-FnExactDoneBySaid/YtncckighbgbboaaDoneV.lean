/- Plain lemmas on what the printed functions answer: numbers and lists alone. -/
import Derived.Test.YtncckighbgbboaaPGx0
import Derived.Test.YtncckighbgbboaaPGx2
import Derived.Test.YtncckighbgbboaaPGx3
import Derived.Test.YtncckighbgbboaaNotes
import Derived.Test.YtncckighbgbboaaSpecPut
namespace Go.Proofs.Ytncckighbgbboaa.Pure
open Go.RowKit Go.Proofs.Ytncckighbgbboaa.PG Go.Proofs.YtncckighbgbboaaW.PrintWords Go.Proofs.YtncckighbgbboaaW.PrintLast
set_option linter.unusedVariables false
set_option linter.unusedSimpArgs false

/-- who is done, as noted -/
def dones : List W → List Int
  | [] => []
  | z :: l => if z.f0 = 3 then z.f1 :: dones l else dones l
theorem dones_len : ∀ l : List W, (dones l).length ≤ l.length
  | [] => by simp [dones]
  | z :: l => by
    have := dones_len l
    rw [dones]
    split
    · rw [List.length_cons, List.length_cons]; omega
    · rw [List.length_cons]; omega
theorem drop_rdN (l : List W) (i : Nat) (h : i < l.length) : l.drop i = rd_T90 l (i : Int) :: l.drop (i + 1) := by
  rw [List.drop_eq_getElem_cons h]
  simp [rd_T90, List.getD_eq_getElem?_getD, h]
theorem specDone_l0 (l : List W) (hb : l.length ≤ 60) : ∀ (d i : Nat) (out : List Int), i + d = l.length → out.length + d ≤ 1000 →
    Ev (fun k => spec_DoneBy.l0 k out l (l.length : Int) (i : Int)) (if (l.drop i).all noteB = true then ((dones (l.drop i)).foldl putV out, true) else ([], false))
  | 0, i, out, h, ho => by
    rw [show l.drop i = [] from List.drop_eq_nil_of_le (by omega)]
    refine Ev.stepc (fun k => ?_)
    simp only [spec_DoneBy.l0]
    rw [if_neg (by omega)]
    rfl
  | d + 1, i, out, h, ho => by
    rw [drop_rdN l i (by omega), List.all_cons, dones]
    cases c : noteB (rd_T90 l (i : Int)) with
    | false =>
      refine Ev.stepc (fun k => ?_)
      simp only [spec_DoneBy.l0, specNote, c, Option.bind_some]
      rw [if_pos (by omega), if_pos (by omega), if_pos (by omega)]
      rfl
    | true =>
      simp only [Bool.true_and]
      by_cases c3 : (rd_T90 l (i : Int)).f0 = 3
      · rw [if_pos c3, List.foldl_cons]
        have hl := putV_len (rd_T90 l (i : Int)).f1 out
        have ih := specDone_l0 l hb d (i + 1) (putV out (rd_T90 l (i : Int)).f1) (by omega) (by omega)
        refine Ev.step (f := fun k => (spec_l1Put.f k out (rd_T90 l (i : Int)).f1).bind fun t => spec_DoneBy.l0 k t l (l.length : Int) ((i + 1 : Nat) : Int)) (fun k => ?_) (Ev.bind (specPut_ev out _ (by omega)) ih)
        simp only [spec_DoneBy.l0, specNote, c, Option.bind_some]
        rw [if_pos (by omega), if_pos (by omega), if_pos (by omega), if_pos trivial, if_pos c3, wnat (by omega)]
      · rw [if_neg c3]
        have ih := specDone_l0 l hb d (i + 1) out (by omega) (by omega)
        refine Ev.step (fun k => ?_) ih
        simp only [spec_DoneBy.l0, specNote, c, Option.bind_some]
        rw [if_pos (by omega), if_pos (by omega), if_pos (by omega), if_pos trivial, if_neg c3, wnat (by omega)]
theorem implDone_l0 (l : List W) (hb : l.length ≤ 60) : ∀ (d i : Nat) (x : List Int), i + d = l.length → x.length + d ≤ 1000 →
    Ev (fun k => impl_DoneBy.l0 k x l (l.length : Int) (i : Int)) (Lib.compact ((x ++ dones (l.drop i)).mergeSort fun a b => decide (a ≤ b)), true)
  | 0, i, x, h, ho => by
    rw [show l.drop i = [] from List.drop_eq_nil_of_le (by omega), dones, List.append_nil]
    refine Ev.stepc (fun k => ?_)
    simp only [impl_DoneBy.l0, slices_Sort_int_int.f, slices_Compact_int_int.f]
    rw [if_neg (by omega), if_pos (by omega), Option.bind_some, if_pos (by rw [List.length_mergeSort]; omega)]
    rfl
  | d + 1, i, x, h, ho => by
    rw [drop_rdN l i (by omega), dones]
    by_cases c3 : (rd_T90 l (i : Int)).f0 = 3
    · rw [if_pos c3]
      have ih := implDone_l0 l hb d (i + 1) (x ++ [(rd_T90 l (i : Int)).f1]) (by omega) (by rw [List.length_append, List.length_singleton]; omega)
      rw [List.append_assoc, List.singleton_append] at ih
      refine Ev.step (fun k => ?_) ih
      simp only [impl_DoneBy.l0]
      rw [if_pos (by omega), if_pos (by omega), if_pos (by omega), if_pos c3, if_pos (by omega), wnat (by omega)]
    · rw [if_neg c3]
      have ih := implDone_l0 l hb d (i + 1) x (by omega) (by omega)
      refine Ev.step (fun k => ?_) ih
      simp only [impl_DoneBy.l0]
      rw [if_pos (by omega), if_pos (by omega), if_pos (by omega), if_neg c3, wnat (by omega)]
theorem dones_eq (l : List W) : Lib.compact ((dones l).mergeSort fun a b => decide (a ≤ b)) = (dones l).foldl putV [] := by
  obtain ⟨s1, s2⟩ := sortu_set (dones l)
  refine strict_ext _ _ s1 (strict_puts _ _ List.Pairwise.nil) (fun z => ?_)
  rw [s2 z, mem_puts]
  simp
/-- who is done, once each, rising; nothing of what is no log -/
def doneV (l : List W) : List Int × Bool := if l.length ≤ 60 ∧ l.all noteB = true then ((dones l).foldl putV [], true) else ([], false)
theorem doneV_len (l : List W) : (doneV l).1.length ≤ 60 := by
  unfold doneV
  by_cases c : l.length ≤ 60 ∧ l.all noteB = true
  · rw [if_pos c]
    have h1 := puts_len (dones l) []
    have h2 := dones_len l
    simp only [List.length_nil] at h1
    have h3 := c.1
    show ((dones l).foldl putV []).length ≤ 60
    omega
  · rw [if_neg c]
    simp
theorem specDone_ev (l : List W) : Ev (fun k => spec_DoneBy.f k l) (doneV l) := by
  unfold spec_DoneBy.f doneV
  by_cases c : l.length ≤ 60
  · have c' : ¬ (l.length : Int) > 60 := by omega
    simp only [if_neg c']
    have h := specDone_l0 l c l.length 0 [] (by omega) (by simp only [List.length_nil]; omega)
    simpa [c] using h
  · have c' : (l.length : Int) > 60 := by omega
    simp only [if_pos c']
    rw [if_neg (fun h => c h.1)]
    exact Ev.now _
theorem implDone_ev (l : List W) : Ev (fun k => impl_DoneBy.f k l) (doneV l) := by
  unfold impl_DoneBy.f doneV
  have bad : Ev (fun k => impl_DoneBy.j0 k l true) (([] : List Int), false) := Ev.stepc (fun k => by simp [impl_DoneBy.j0])
  by_cases c : l.length ≤ 60
  · have c' : ¬ (l.length : Int) > 60 := by omega
    simp only [if_neg c', implNotes, Option.bind_some]
    cases c2 : l.all noteB with
    | false =>
      rw [if_neg (by simp)]
      exact bad
    | true =>
      rw [if_pos ⟨c, rfl⟩]
      refine Ev.step (f := fun k => impl_DoneBy.l0 k ([] : List Int) l (l.length : Int) 0) (fun k => by simp [impl_DoneBy.j0]) ?_
      have h := implDone_l0 l c l.length 0 [] (by omega) (by simp only [List.length_nil]; omega)
      rw [List.drop_zero, List.nil_append, dones_eq] at h
      exact h
  · have c' : (l.length : Int) > 60 := by omega
    simp only [if_pos c']
    rw [if_neg (fun h => c h.1)]
    exact bad

end Go.Proofs.Ytncckighbgbboaa.Pure

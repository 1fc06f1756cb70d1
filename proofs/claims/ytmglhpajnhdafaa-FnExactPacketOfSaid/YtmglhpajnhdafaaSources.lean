/- Plain lemmas on what the printed functions answer: numbers and lists alone. -/
import Derived.Test.YtmglhpajnhdafaaPPx1
import Derived.Test.YtmglhpajnhdafaaPPx2
import Derived.Test.YtmglhpajnhdafaaStringS
namespace Go.Proofs.Ytmglhpajnhdafaa.Pure
open Go.RowKit Go.Proofs.Ytmglhpajnhdafaa.PP Go.Proofs.YtmglhpajnhdafaaW.PrintWords Go.Proofs.YtmglhpajnhdafaaW.PrintLast
set_option linter.unusedVariables false
set_option linter.unusedSimpArgs false

def alikeB (l : List ByteArray) (x : ByteArray) : Bool := decide ((x.size : Int) = ((rdOf ByteArray.empty l 0).size : Int)) && decide ((x.size : Int) ≤ 20)
def manyB (l : List ByteArray) : Bool := decide ((1 : Int) ≤ (l.length : Int)) && decide ((l.length : Int) ≤ 10)
theorem within_s (a b c : Int) : impl_within.f a b c = some (decide (b ≤ a) && decide (a ≤ c)) := by
  unfold impl_within.f
  by_cases h : b ≤ a
  · rw [if_pos h, decide_eq_true h, Bool.true_and]
  · rw [if_neg h, decide_eq_false h, Bool.false_and]
theorem in_s (a b c : Int) : spec_l1In.f a b c = some (decide (b ≤ a) && decide (a ≤ c)) := by
  unfold spec_l1In.f
  by_cases h : a ≥ b
  · rw [if_pos h, decide_eq_true h, Bool.true_and]
  · rw [if_neg h, decide_eq_false h, Bool.false_and]
theorem all_alike (l : List ByteArray) (h : 0 < l.length) : ∀ q : List ByteArray, allO (impl_areAlike.p l) q = some (q.all (alikeB l))
  | [] => rfl
  | x :: q => by
    rw [allO]
    unfold impl_areAlike.p
    rw [if_pos h, Option.bind_some, List.all_cons]
    show (if alikeB l x = true then allO (impl_areAlike.p l) q else some false) = some (alikeB l x && q.all (alikeB l))
    cases alikeB l x with
    | true => rw [if_pos rfl, Bool.true_and]; exact all_alike l h q
    | false => rfl
theorem impl_sources (l : List ByteArray) : impl_GoodSources.f l = some (manyB l && l.all (alikeB l)) := by
  unfold impl_GoodSources.f impl_isMany.f
  rw [within_s, Option.bind_some, Option.bind_some]
  show (if manyB l = true then _ else _) = _
  cases h : manyB l with
  | false => rfl
  | true =>
    have h1 : 0 < l.length := by
      unfold manyB at h
      simp only [Bool.and_eq_true, decide_eq_true_eq] at h
      omega
    unfold impl_areAlike.f
    rw [if_pos rfl, all_alike l h1 l, Option.bind_some, Bool.true_and]
theorem spec_sources_l0 (l : List ByteArray) (hb : l.length ≤ 1048576) : ∀ (d i : Nat), i + d = l.length → Ev (fun k => spec_GoodSources.l0 k l l (l.length : Int) (i : Int)) ((l.drop i).all (alikeB l) && manyB l)
  | 0, i, h => Ev.stepc (fun k => by
      rw [spec_GoodSources.l0, if_neg (by omega), in_s, Option.bind_some, List.drop_eq_nil_of_le (by omega), List.all_nil, Bool.true_and]
      rfl)
  | d + 1, i, h => by
    have ih := spec_sources_l0 l hb d (i + 1) (by omega)
    rw [drop_rdT l i (by omega), List.all_cons]
    by_cases c1 : ((rdOf ByteArray.empty l (i : Int)).size : Int) = ((rdOf ByteArray.empty l 0).size : Int)
    · by_cases c2 : ((rdOf ByteArray.empty l (i : Int)).size : Int) > 20
      · have e : alikeB l (rdOf ByteArray.empty l (i : Int)) = false := by unfold alikeB; rw [decide_eq_false (show ¬ ((rdOf ByteArray.empty l (i : Int)).size : Int) ≤ 20 by omega), Bool.and_false]
        rw [e, Bool.false_and, Bool.false_and]
        exact Ev.stepc (fun k => by rw [spec_GoodSources.l0, if_pos (by omega), if_pos (by omega), if_pos (by omega), if_pos (by omega), if_pos c1, if_pos c2])
      · have e : alikeB l (rdOf ByteArray.empty l (i : Int)) = true := by unfold alikeB; rw [decide_eq_true c1, decide_eq_true (show ((rdOf ByteArray.empty l (i : Int)).size : Int) ≤ 20 by omega)]; rfl
        rw [e, Bool.true_and]
        exact Ev.step (fun k => by rw [spec_GoodSources.l0, if_pos (by omega), if_pos (by omega), if_pos (by omega), if_pos (by omega), if_pos c1, if_neg c2, wnat (by omega)]) ih
    · have e : alikeB l (rdOf ByteArray.empty l (i : Int)) = false := by unfold alikeB; rw [decide_eq_false c1, Bool.false_and]
      rw [e, Bool.false_and, Bool.false_and]
      exact Ev.stepc (fun k => by rw [spec_GoodSources.l0, if_pos (by omega), if_pos (by omega), if_pos (by omega), if_pos (by omega), if_neg c1])
theorem spec_sources (l : List ByteArray) (hb : l.length ≤ 1048576) : Ev (fun k => spec_GoodSources.f k l) (manyB l && l.all (alikeB l)) := by
  have h := spec_sources_l0 l hb l.length 0 (by omega)
  rw [List.drop_zero, Bool.and_comm] at h
  exact h

end Go.Proofs.Ytmglhpajnhdafaa.Pure

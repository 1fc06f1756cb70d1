/- Plain lemmas on what the printed functions answer: numbers and lists alone. -/
import Derived.Test.YthhnmdemmogjaaaPHx0
import Derived.Test.YthhnmdemmogjaaaPHx3
import Derived.Test.YthhnmdemmogjaaaPHx4
import Derived.Test.YthhnmdemmogjaaaPHx5
import Derived.Test.YthhnmdemmogjaaaPHx6
import Derived.Test.YthhnmdemmogjaaaRising
import Derived.Test.YthhnmdemmogjaaaLayerNums
import Derived.Test.YthhnmdemmogjaaaStringS
namespace Go.Proofs.Ythhnmdemmogjaaa.Pure
open Go.RowKit Go.Proofs.Ythhnmdemmogjaaa.PH Go.Proofs.YthhnmdemmogjaaaW.PrintWords Go.Proofs.YthhnmdemmogjaaaW.PrintLast
set_option linter.unusedVariables false
set_option linter.unusedSimpArgs false

def dataB (s : ByteArray) : Bool := ((s.size : Int) == 2)
def layerB (y : S51) : Bool := inB 0 200 y.f0 && (y.f1.all (inB 0 15) && (ris y.f1 && (((y.f2.length : Int) == (y.f1.length : Int)) && y.f2.all dataB)))
/-- whether marks are good -/
def goodB (l : List S51) : Bool := inB 1 8 (l.length : Int) && (l.all layerB && ris (l.map (·.f0)))
/-- lists in a layer are not too long -/
def okL (l : List S51) : Prop := l.length ≤ 1048576 ∧ ∀ x ∈ l, x.f1.length ≤ 1048576 ∧ x.f2.length ≤ 1048576
theorem allO_all {α : Type} (p : α → Option Bool) (b : α → Bool) : ∀ l : List α, (∀ x ∈ l, p x = some (b x)) → allO p l = some (l.all b)
  | [], _ => rfl
  | x :: l, h => by
    simp only [allO, h x (by simp), Option.bind_some, List.all_cons]
    cases b x with
    | true => simpa using allO_all p b l (fun y hy => h y (by simp [hy]))
    | false => rfl
theorem allO_ev {α : Type} (p : Nat → α → Option Bool) (b : α → Bool) : ∀ l : List α, (∀ x ∈ l, Ev (fun k => p k x) (b x)) → Ev (fun k => allO (p k) l) (l.all b)
  | [], _ => Ev.now _
  | x :: l, h => by
    simp only [allO, List.all_cons]
    refine Ev.bind (h x (by simp)) ?_
    cases b x with
    | true => simpa using allO_ev p b l (fun y hy => h y (by simp [hy]))
    | false => simpa using Ev.now false
theorem implLayer_ev (y : S51) (h : y.f1.length ≤ 1048576) : Ev (fun k => impl_Layer_isGood.f k y.f0 y.f1 y.f2) (layerB y) := by
  unfold impl_Layer_isGood.f layerB impl_isMark.f
  simp only [within_eq, Option.bind_some]
  have e1 : areAllOf_impl_isBlock.f y.f1 = some (y.f1.all (inB 0 15)) := allO_all _ _ _ (fun x _ => by unfold impl_isBlock.f; rw [within_eq]; rfl)
  have e2 : areAllOf_impl_isData.f y.f2 = some (y.f2.all dataB) := allO_all _ _ _ (fun x _ => rfl)
  simp only [e1, e2, Option.bind_some]
  cases inB 0 200 y.f0 with
  | false => simpa using Ev.now false
  | true =>
    simp only [if_true, Bool.true_and]
    cases y.f1.all (inB 0 15) with
    | false => simpa using Ev.now false
    | true =>
      simp only [if_true, Bool.true_and]
      refine Ev.bind (areRising_ev y.f1 (by omega)) ?_
      cases ris y.f1 with
      | false => simpa using Ev.now false
      | true =>
        simp only [if_true, Bool.true_and]
        by_cases c : (y.f2.length : Int) = (y.f1.length : Int)
        · simp only [if_pos c, c, beq_self_eq_true, Bool.true_and]
          exact Ev.now _
        · have c2 : ((y.f2.length : Int) == (y.f1.length : Int)) = false := beq_eq_false_iff_ne.mpr c
          simp only [if_neg c, c2, Bool.false_and]
          exact Ev.now _
theorem implGood_l0 (l : List S51) (hl : okL l) : ∀ (d i : Nat), i + d = l.length →
    Ev (fun k => impl_GoodMarks.l0 k ((l.take i).map (·.f0)) l (l.length : Int) (i : Int) l) (goodB l)
  | 0, i, h => by
    have e : l.take i = l := List.take_of_length_le (by omega)
    rw [e]
    have h1 : Ev (fun k => areAllOf_impl_Layer_isGood.f k l) (l.all layerB) := allO_ev _ _ _ (fun x hx => implLayer_ev x (hl.2 x hx).1)
    have h2 := areRising_ev (l.map (·.f0)) (by rw [List.length_map]; have := hl.1; omega)
    refine Ev.step (f := fun k => (impl_within.f (l.length : Int) 1 8).bind fun t175 => (if t175 = true then ((areAllOf_impl_Layer_isGood.f k l).bind fun t176 => (if t176 = true then ((impl_areRising.f k (l.map (·.f0))).bind fun t177 => (some t177)) else (some false))) else (some false))) (fun k => ?_) ?_
    · simp only [impl_GoodMarks.l0]
      rw [if_neg (by omega)]
    · simp only [within_eq, Option.bind_some]
      unfold goodB
      cases inB 1 8 (l.length : Int) with
      | false => simpa using Ev.now false
      | true =>
        simp only [if_true, Bool.true_and]
        refine Ev.bind h1 ?_
        cases l.all layerB with
        | false => simpa using Ev.now false
        | true =>
          simp only [if_true, Bool.true_and]
          exact Ev.bind h2 (Ev.now _)
  | d + 1, i, h => by
    have ih := implGood_l0 l hl d (i + 1) (by omega)
    have hlen := hl.1
    have e : (l.take (i + 1)).map (·.f0) = (l.take i).map (·.f0) ++ [(rd_T51 l (i : Int)).f0] := by
      rw [List.take_succ_eq_append_getElem (by omega), List.map_append]
      simp [rd_T51, List.getD_eq_getElem?_getD, show i < l.length by omega]
    rw [e] at ih
    have hq : ((l.take i).map (·.f0)).length < 17592186044416 := by rw [List.length_map, List.length_take]; omega
    refine Ev.step (fun k => ?_) ih
    simp only [impl_GoodMarks.l0]
    rw [if_pos (by omega), if_pos (by omega), if_pos (by omega), if_pos hq, wnat (by omega)]
theorem implGood_ev (l : List S51) (hl : okL l) : Ev (fun k => impl_GoodMarks.f k l) (goodB l) := by
  have h := implGood_l0 l hl l.length 0 (by omega)
  unfold impl_GoodMarks.f
  simpa using h
theorem rdL_map (l : List S51) (i : Nat) (h : i < l.length) : rd (l.map (·.f0)) (i : Int) = (rd_T51 l (i : Int)).f0 := by
  simp [rd, rd_T51, List.getD_eq_getElem?_getD, h]
theorem specData_l1 (l : List S51) (x8 : List S51) (ds : List ByteArray) (hb : ds.length ≤ 1048576) (x9 x10 : Int) {r : Bool} (hr : Ev (fun k => spec_GoodMarks.l0 k x8 x9 (wrap64 (x10 + 1)) l) r) : ∀ (d i : Nat), i + d = ds.length →
    Ev (fun k => spec_GoodMarks.l1 k x8 x9 x10 ds (ds.length : Int) (i : Int) l) ((ds.drop i).all dataB && r)
  | 0, i, h => by
    rw [show ds.drop i = [] from List.drop_eq_nil_of_le (by omega)]
    refine Ev.step (fun k => ?_) (by simpa using hr)
    simp only [spec_GoodMarks.l1]
    rw [if_neg (by omega)]
  | d + 1, i, h => by
    have ih := specData_l1 l x8 ds hb x9 x10 hr d (i + 1) (by omega)
    rw [drop_rdT ds i (by omega), List.all_cons]
    cases c : dataB (rdOf ByteArray.empty ds (i : Int)) with
    | false =>
      refine Ev.stepc (fun k => ?_)
      simp only [spec_GoodMarks.l1, spec_l7Data.f, Option.bind_some]
      unfold dataB at c
      rw [if_pos (by omega), if_pos (by omega), if_pos (by omega), c]
      simp
    | true =>
      refine Ev.step (fun k => ?_) (by rw [Bool.true_and]; exact ih)
      simp only [spec_GoodMarks.l1, spec_l7Data.f, Option.bind_some]
      unfold dataB at c
      rw [if_pos (by omega), if_pos (by omega), if_pos (by omega), c, if_pos rfl, wnat (by omega)]
/-- what the reference asks of a layer, but for its data -/
def headB (y : S51) : Bool := (y.f1.all (inB 0 15) && ris y.f1) && ((y.f2.length : Int) == (y.f1.length : Int))
theorem specGood_tail (l : List S51) (i : Nat) (y : S51) (hy : y.f1.length ≤ 1048576 ∧ y.f2.length ≤ 1048576) (x8 : List S51) (x9 x10 : Int) {r : Bool} (hr : Ev (fun k => spec_GoodMarks.l0 k x8 x9 (wrap64 (x10 + 1)) l) r) :
    Ev (fun k => (spec_l1Rising.f k y.f1 0 15).bind fun t223 => (if t223 = true then (spec_GoodMarks.j1 k x8 x9 x10 ((y.f2.length : Int) != (y.f1.length : Int)) l y.f0 y.f1 y.f2) else (spec_GoodMarks.j1 k x8 x9 x10 true l y.f0 y.f1 y.f2))) (headB y && (y.f2.all dataB && r)) := by
  refine Ev.bind (l1Rising_ev y.f1 0 15 (by omega)) ?_
  have bad : ∀ q : Bool, q = true → Ev (fun k => spec_GoodMarks.j1 k x8 x9 x10 q l y.f0 y.f1 y.f2) false := by
    intro q hq
    subst hq
    exact Ev.stepc (fun k => by simp [spec_GoodMarks.j1])
  unfold headB
  cases y.f1.all (inB 0 15) && ris y.f1 with
  | false => simpa using bad true rfl
  | true =>
    simp only [if_true, Bool.true_and]
    by_cases c : (y.f2.length : Int) = (y.f1.length : Int)
    · have c1 : ((y.f2.length : Int) == (y.f1.length : Int)) = true := beq_iff_eq.mpr c
      have c2 : ((y.f2.length : Int) != (y.f1.length : Int)) = false := bne_eq_false_iff_eq.mpr c
      rw [c1, c2, Bool.true_and]
      refine Ev.step (f := fun k => spec_GoodMarks.l1 k x8 x9 x10 y.f2 (y.f2.length : Int) 0 l) (fun k => ?_) ?_
      · simp only [spec_GoodMarks.j1]
        rw [if_neg (by decide)]
      · have h := specData_l1 l x8 y.f2 hy.2 x9 x10 hr y.f2.length 0 (by omega)
        simpa using h
    · have c1 : ((y.f2.length : Int) == (y.f1.length : Int)) = false := beq_eq_false_iff_ne.mpr c
      have c2 : ((y.f2.length : Int) != (y.f1.length : Int)) = true := bne_iff_ne.mpr c
      rw [c1, c2, Bool.false_and]
      exact bad true rfl
/-- what is left to ask behind i layers -/
def restB (l : List S51) (i : Nat) : Bool := (l.drop i).all layerB && ris ((l.drop (i - 1)).map (·.f0))
theorem specGood_l0 (l : List S51) (hl : okL l) : ∀ (d i : Nat), i + d = l.length →
    Ev (fun k => spec_GoodMarks.l0 k l (l.length : Int) (i : Int) l) (restB l i && inB 1 8 (l.length : Int))
  | 0, i, h => by
    have hlen := hl.1
    have e : restB l i = true := by
      unfold restB
      rw [show l.drop i = [] from List.drop_eq_nil_of_le (by omega)]
      by_cases h0 : i = 0
      · subst h0
        have : l = [] := List.eq_nil_of_length_eq_zero (by omega)
        subst this
        rfl
      · obtain ⟨j, rfl⟩ : ∃ j, i = j + 1 := ⟨i - 1, by omega⟩
        have e2 : l.drop (j + 1 - 1) = [rd_T51 l (j : Int)] := by
          rw [Nat.add_sub_cancel, drop_rdL l j (by omega), show l.drop (j + 1) = [] from List.drop_eq_nil_of_le (by omega)]
        rw [e2]
        rfl
    rw [e, Bool.true_and]
    refine Ev.stepc (fun k => ?_)
    simp only [spec_GoodMarks.l0]
    rw [if_neg (by omega), l1In_eq, Option.bind_some]
  | d + 1, i, h => by
    have hlen := hl.1
    have ih := specGood_l0 l hl d (i + 1) (by omega)
    rw [← wnat (by omega)] at ih
    have hy := hl.2 _ (mem_rdL l i (by omega))
    have tail := specGood_tail l i (rd_T51 l (i : Int)) hy l (l.length : Int) (i : Int) ih
    have eL : layerB (rd_T51 l (i : Int)) = (inB 0 200 (rd_T51 l (i : Int)).f0 && (headB (rd_T51 l (i : Int)) && (rd_T51 l (i : Int)).f2.all dataB)) := by
      unfold layerB headB
      simp [Bool.and_assoc]
    have eR : restB l i = (layerB (rd_T51 l (i : Int)) && ((if i = 0 then true else decide ((rd_T51 l ((i - 1 : Nat) : Int)).f0 < (rd_T51 l (i : Int)).f0)) && restB l (i + 1))) := by
      unfold restB
      rw [drop_rdL l i (by omega), List.all_cons, Nat.add_sub_cancel]
      by_cases h0 : i = 0
      · subst h0
        rw [if_pos rfl, Bool.true_and, Bool.and_assoc]
        try congr 2
      · obtain ⟨j, rfl⟩ : ∃ j, i = j + 1 := ⟨i - 1, by omega⟩
        rw [if_neg h0, Nat.add_sub_cancel, drop_rdL l j (by omega), drop_rdL l (j + 1) (by omega)]
        simp only [List.map_cons, ris]
        cases layerB (rd_T51 l ((j + 1 : Nat) : Int)) <;> cases (l.drop (j + 1 + 1)).all layerB <;> simp
    rw [eR, eL]
    cases c1 : inB 0 200 (rd_T51 l (i : Int)).f0 with
    | false =>
      refine Ev.step (f := fun k => spec_GoodMarks.j1 k l (l.length : Int) (i : Int) true l (rd_T51 l (i : Int)).f0 (rd_T51 l (i : Int)).f1 (rd_T51 l (i : Int)).f2) (fun k => ?_) (Ev.stepc (fun k => ?_))
      · simp only [spec_GoodMarks.l0]
        rw [if_pos (by omega), if_pos (by omega), if_pos (by omega), l1In_eq, c1, Option.bind_some, if_neg (by decide)]
      · simp [spec_GoodMarks.j1]
    | true =>
      by_cases h0 : i = 0
      · refine Ev.step (fun k => ?_) (r := _) (f := fun k => (spec_l1Rising.f k (rd_T51 l (i : Int)).f1 0 15).bind fun t223 => (if t223 = true then (spec_GoodMarks.j1 k l (l.length : Int) (i : Int) (((rd_T51 l (i : Int)).f2.length : Int) != ((rd_T51 l (i : Int)).f1.length : Int)) l (rd_T51 l (i : Int)).f0 (rd_T51 l (i : Int)).f1 (rd_T51 l (i : Int)).f2) else (spec_GoodMarks.j1 k l (l.length : Int) (i : Int) true l (rd_T51 l (i : Int)).f0 (rd_T51 l (i : Int)).f1 (rd_T51 l (i : Int)).f2))) ?_
        · simp only [spec_GoodMarks.l0]
          rw [if_pos (by omega), if_pos (by omega), if_pos (by omega), l1In_eq, c1, Option.bind_some, if_pos rfl, if_neg (by omega)]
        · rw [if_pos h0]
          simpa [Bool.and_assoc] using tail
      · obtain ⟨j, rfl⟩ : ∃ j, i = j + 1 := ⟨i - 1, by omega⟩
        rw [if_neg h0]
        simp only [Nat.add_sub_cancel]
        by_cases c2 : (rd_T51 l (j : Int)).f0 ≥ (rd_T51 l ((j + 1 : Nat) : Int)).f0
        · have c3 : decide ((rd_T51 l (j : Int)).f0 < (rd_T51 l ((j + 1 : Nat) : Int)).f0) = false := decide_eq_false (by omega)
          rw [c3]
          refine Ev.step (f := fun k => spec_GoodMarks.j1 k l (l.length : Int) ((j + 1 : Nat) : Int) true l (rd_T51 l ((j + 1 : Nat) : Int)).f0 (rd_T51 l ((j + 1 : Nat) : Int)).f1 (rd_T51 l ((j + 1 : Nat) : Int)).f2) (fun k => ?_) (Ev.stepc (fun k => ?_))
          · simp only [spec_GoodMarks.l0]
            rw [if_pos (by omega), if_pos (by omega), if_pos (by omega), l1In_eq, c1, Option.bind_some, if_pos rfl, if_pos (by omega), wpred (by omega), if_pos (by omega), if_pos (by omega), if_pos c2]
          · simp [spec_GoodMarks.j1]
        · have c3 : decide ((rd_T51 l (j : Int)).f0 < (rd_T51 l ((j + 1 : Nat) : Int)).f0) = true := decide_eq_true (by omega)
          rw [c3]
          refine Ev.step (fun k => ?_) (r := _) (f := fun k => (spec_l1Rising.f k (rd_T51 l ((j + 1 : Nat) : Int)).f1 0 15).bind fun t223 => (if t223 = true then (spec_GoodMarks.j1 k l (l.length : Int) ((j + 1 : Nat) : Int) (((rd_T51 l ((j + 1 : Nat) : Int)).f2.length : Int) != ((rd_T51 l ((j + 1 : Nat) : Int)).f1.length : Int)) l (rd_T51 l ((j + 1 : Nat) : Int)).f0 (rd_T51 l ((j + 1 : Nat) : Int)).f1 (rd_T51 l ((j + 1 : Nat) : Int)).f2) else (spec_GoodMarks.j1 k l (l.length : Int) ((j + 1 : Nat) : Int) true l (rd_T51 l ((j + 1 : Nat) : Int)).f0 (rd_T51 l ((j + 1 : Nat) : Int)).f1 (rd_T51 l ((j + 1 : Nat) : Int)).f2))) ?_
          · simp only [spec_GoodMarks.l0]
            rw [if_pos (by omega), if_pos (by omega), if_pos (by omega), l1In_eq, c1, Option.bind_some, if_pos rfl, if_pos (by omega), wpred (by omega), if_pos (by omega), if_pos (by omega), if_neg c2]
          · simpa [Bool.and_assoc] using tail
theorem specGood_ev (l : List S51) (hl : okL l) : Ev (fun k => spec_GoodMarks.f k l) (goodB l) := by
  have h := specGood_l0 l hl l.length 0 (by omega)
  have e : (restB l 0 && inB 1 8 (l.length : Int)) = goodB l := by
    unfold restB goodB
    simp [Bool.and_comm]
  rw [e] at h
  exact h

end Go.Proofs.Ythhnmdemmogjaaa.Pure

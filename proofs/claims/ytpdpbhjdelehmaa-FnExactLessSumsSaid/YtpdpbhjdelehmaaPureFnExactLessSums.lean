/- The program's LessSums returns what the reference's returns: for all arguments, with no condition. -/
import Derived.Test.YtpdpbhjdelehmaaPAx10
import Derived.Test.YtpdpbhjdelehmaaPAx2
import Derived.Test.YtpdpbhjdelehmaaPAx9
import Derived.Test.YtpdpbhjdelehmaaValues
import Derived.Test.YtpdpbhjdelehmaaIntsOut
import Derived.Test.YtpdpbhjdelehmaaTab
namespace Go.Proofs.Ytpdpbhjdelehmaa.Pure
open Go.RowKit Go.Proofs.Ytpdpbhjdelehmaa.PA Go.Proofs.YtpdpbhjdelehmaaW.PrintWords Go.Proofs.YtpdpbhjdelehmaaW.PrintLast
set_option linter.unusedVariables false
set_option linter.unusedSimpArgs false

def difs (a b : List Int) (m : Nat) : List Int := tab (fun i => wrap64 (rd a (i : Int) - rd b (i : Int))) m
def lessR (p : List Int) : List Int × Bool := if sumsB p = true then (p, true) else ([], false)
theorem spec_less_l0 (a b : List Int) (hl : a.length = b.length) (ha : a.length ≤ 4) : ∀ (d i : Nat), i + d = a.length →
    Ev (fun q => spec_LessSums.l0 q a b (difs a b i) (a.length : Int) (i : Int)) (lessR (difs a b a.length))
  | 0, i, e => by
    have hi : i = a.length := by omega
    subst hi
    have hn := numbers_ev (difs a b a.length) (by unfold difs; rw [tab_len]; omega)
    refine Ev.step (f := fun q => (spec_l12Numbers.f q (difs a b a.length)).bind fun t => (if t = true then (some (difs a b a.length, true)) else (some (([] : List Int), false)))) (fun q => ?_) (Ev.bind hn ?_)
    · simp only [spec_LessSums.l0]
      rw [if_neg (by omega)]
    · unfold lessR
      cases sumsB (difs a b a.length) with
      | true => exact Ev.now _
      | false => exact Ev.now _
  | d + 1, i, e => by
    have ih := spec_less_l0 a b hl ha d (i + 1) (by omega)
    refine Ev.step (fun q => ?_) ih
    simp only [spec_LessSums.l0]
    rw [if_pos (by omega), if_pos (by omega), if_pos (by omega), if_pos (by omega), if_pos (by unfold difs; rw [tab_len]; omega), wnat (by omega)]
    unfold difs
    rw [tab_snoc]
theorem impl_less_l0 (a b : List Int) (hl : a.length = b.length) (ha : a.length ≤ 4) : ∀ (d i : Nat), i + d = a.length →
    Ev (fun q => impl_LessSums.l0 q b (tab (fun x => if x < i then wrap64 (rd a (x : Int) - rd b (x : Int)) else rd a (x : Int)) a.length) (a.length : Int) (i : Int)) (lessR (difs a b a.length))
  | 0, i, e => by
    have hi : i = a.length := by omega
    subst hi
    refine Ev.stepc (fun q => ?_)
    simp only [impl_LessSums.l0]
    rw [if_neg (by omega), areSums_eq, Option.bind_some, tab_congr (g' := fun x => wrap64 (rd a (x : Int) - rd b (x : Int))) (fun x hx => if_pos hx)]
    unfold lessR difs
    split <;> rfl
  | d + 1, i, e => by
    have ih := impl_less_l0 a b hl ha d (i + 1) (by omega)
    refine Ev.step (fun q => ?_) ih
    simp only [impl_LessSums.l0]
    rw [if_pos (by omega), if_pos (by omega), if_pos (by rw [tab_len]; omega), if_pos (by omega), wnat (by omega), tab_rd _ _ _ (by omega), if_neg (by omega), Int.toNat_natCast, tab_set]
    have e1 : tab (fun x => if x = i then wrap64 (rd a (i : Int) - rd b (i : Int)) else if x < i then wrap64 (rd a (x : Int) - rd b (x : Int)) else rd a (x : Int)) a.length = tab (fun x => if x < i + 1 then wrap64 (rd a (x : Int) - rd b (x : Int)) else rd a (x : Int)) a.length := by
      refine tab_congr fun x _ => ?_
      by_cases h1 : x = i
      · subst h1
        rw [if_pos rfl, if_pos (by omega)]
      · rw [if_neg h1]
        by_cases h2 : x < i
        · rw [if_pos h2, if_pos (by omega)]
        · rw [if_neg h2, if_neg (by omega)]
    rw [e1]
theorem FnExactLessSums : laws_FnExactLessSums.Pure := by
  intro l l2 _ _ _ _ _ _
  suffices h : Ev (fun k => laws_FnExactLessSums.f k l l2) true from h.rounds
  by_cases c1 : (l.length : Int) > 1048576
  · unfold laws_FnExactLessSums.f
    simp only [if_pos c1]
    exact Ev.now true
  · by_cases c2 : (l2.length : Int) > 1048576
    · unfold laws_FnExactLessSums.f
      simp only [if_neg c1, if_pos c2]
      exact Ev.now true
    · have hb : l.length ≤ 1099511627776 := by omega
      have hb2 : l2.length ≤ 1099511627776 := by omega
      have t := toIntS_ev l hb
      have t2 := toIntS_ev l2 hb2
      obtain ⟨L, b, hL, h1, h2⟩ : ∃ (L : List Int) (b : Bool), L.length ≤ 1099511627776 ∧ Ev (fun k => spec_LessSums.f k l l2) (L, b) ∧ Ev (fun k => impl_LessSums.f k l l2) (L, b) := by
        unfold spec_LessSums.f impl_LessSums.f
        simp only [areSums_eq, Option.bind_some]
        have g1 := numbers_ev l hb
        have g2 := numbers_ev l2 hb2
        have st : Ev (fun k => spec_LessSums.j0 k l l2 true) ([], false) := Ev.stepc (fun k => by simp [spec_LessSums.j0])
        have it : Ev (fun k => impl_LessSums.j0 k l l2 true) ([], false) := Ev.stepc (fun k => by simp [impl_LessSums.j0])
        by_cases hl : l.length = l2.length
        · have hl' : (l.length : Int) = (l2.length : Int) := by omega
          simp only [if_pos hl']
          cases s1 : sumsB l with
          | false =>
            rw [s1] at g1
            exact ⟨[], false, by simp, Ev.bind g1 (by simpa using st), by simpa using it⟩
          | true =>
            rw [s1] at g1
            cases s2 : sumsB l2 with
            | false =>
              rw [s2] at g2
              exact ⟨[], false, by simp, Ev.bind g1 (by simp only [if_true]; exact Ev.bind g2 (by simpa using st)), by simpa using it⟩
            | true =>
              rw [s2] at g2
              have h4 : l.length ≤ 4 := by
                have := s1
                simp [sumsB] at this
                omega
              have hw : ((l.length : Int) != (l2.length : Int)) = false := by simp [hl']
              have hc : slices_Clone_int_int.f l = some l := by
                unfold slices_Clone_int_int.f
                rw [if_pos (by omega)]
              refine ⟨(lessR (difs l l2 l.length)).1, (lessR (difs l l2 l.length)).2, ?_, Ev.bind g1 ?_, ?_⟩
              · unfold lessR difs
                split <;> simp [tab_len] <;> omega
              · simp only [if_true]
                refine Ev.bind g2 ?_
                simp only [if_true, hw]
                refine Ev.step (f := fun q => spec_LessSums.l0 q l l2 [] (l.length : Int) 0) (fun q => by simp [spec_LessSums.j0]) ?_
                exact spec_less_l0 l l2 hl h4 l.length 0 (by omega)
              · simp only [if_true, Bool.not_true]
                refine Ev.step (f := fun q => impl_LessSums.l0 q l2 l (l.length : Int) 0) (fun q => by simp [impl_LessSums.j0, hc]) ?_
                have := impl_less_l0 l l2 hl h4 l.length 0 (by omega)
                rw [tab_congr (g := fun x => if x < 0 then wrap64 (rd l (x : Int) - rd l2 (x : Int)) else rd l (x : Int)) (g' := fun x => rd l (x : Int)) (fun x _ => if_neg (by omega)), tab_of] at this
                exact this
        · have hl' : ¬ (l.length : Int) = (l2.length : Int) := by omega
          have hw : ((l.length : Int) != (l2.length : Int)) = true := by simp [hl']
          simp only [if_neg hl', hw]
          refine ⟨[], false, by simp, ?_, it⟩
          refine Ev.bind g1 ?_
          cases sumsB l with
          | false => simpa using st
          | true =>
            simp only [if_true]
            refine Ev.bind g2 ?_
            cases sumsB l2 with
            | false => simpa using st
            | true => simpa using st
      have e1 := eqIntS_self L hL
      have e2 := eqIntS_self l hb
      have e3 := eqIntS_self l2 hb2
      have m0 := markIntS_ev l 1 (by omega) (by omega) hb
      have m00 := markIntS_ev l2 (1 + (l.length : Int)) (by omega) (by omega) hb2
      have m1 := markIntS_ev L 1 (by omega) (by omega) hL
      have m2 := heldIntS_ev L.length 1 (by omega) (by omega) hL
      have n1 := neg_len L
      have n2 : ¬ (1 + (l.length : Int) + (l2.length : Int) < 0) := by omega
      have j2 : Ev (fun k => laws_FnExactLessSums.j2 k (upFrom 1 L.length) (1 + (L.length : Int)) false) true := by
        refine Ev.step (fun k => by rw [laws_FnExactLessSums.j2]) ?_
        simp only [Bool.false_eq_true, if_false]
        refine Ev.bind m2 ?_
        simp only [if_neg n1, if_true]
        exact Ev.now true
      have j1 : Ev (fun k => laws_FnExactLessSums.j1 k l l2 L b L false) true := by
        refine Ev.step (fun k => by rw [laws_FnExactLessSums.j1]) ?_
        simp only [Bool.false_eq_true, if_false]
        refine Ev.bind m1 (Ev.bind m2 ?_)
        simp only [if_neg n1, if_true]
        refine Ev.bind t (Ev.bind t2 (Ev.bind h2 (Ev.bind e1 ?_)))
        simp only [if_true, bne_self_eq_false]
        exact j2
      have j0 : Ev (fun k => laws_FnExactLessSums.j0 k l l2 L b l l2 L b false) true := by
        refine Ev.step (fun k => by rw [laws_FnExactLessSums.j0]) ?_
        simp only [Bool.false_eq_true, if_false]
        refine Ev.bind t (Ev.bind e2 ?_)
        simp only [if_true]
        refine Ev.bind t2 (Ev.bind e3 ?_)
        simp only [if_true]
        refine Ev.bind m0 (Ev.bind m00 ?_)
        simp only [if_neg n2]
        refine Ev.bind e1 ?_
        simp only [if_true, bne_self_eq_false]
        exact j1
      unfold laws_FnExactLessSums.f
      simp only [if_neg c1, if_neg c2]
      refine Ev.bind t (Ev.bind t2 (Ev.bind h1 (Ev.bind t (Ev.bind t2 (Ev.bind h2 (Ev.bind e1 ?_))))))
      simp only [bne_self_eq_false, if_true]
      exact j0

end Go.Proofs.Ytpdpbhjdelehmaa.Pure

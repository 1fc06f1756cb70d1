/- The program's RootsOf returns what the reference's returns: for all arguments, with no condition. -/
import Derived.Test.YtpdpbhjdelehmaaPAx3
import Derived.Test.YtpdpbhjdelehmaaPAx7
import Derived.Test.YtpdpbhjdelehmaaPAx8
import Derived.Test.YtpdpbhjdelehmaaValues
import Derived.Test.YtpdpbhjdelehmaaIntsOut
namespace Go.Proofs.Ytpdpbhjdelehmaa.Pure
open Go.RowKit Go.Proofs.Ytpdpbhjdelehmaa.PA Go.Proofs.YtpdpbhjdelehmaaW.PrintWords Go.Proofs.YtpdpbhjdelehmaaW.PrintLast
set_option linter.unusedVariables false
set_option linter.unusedSimpArgs false

/-- the places from x on, n of them, at which v is 0 -/
def zerosFrom (v : Int → Int) : Nat → Int → List Int
  | 0, _ => []
  | n + 1, x => if v x = 0 then x :: zerosFrom v n (x + 1) else zerosFrom v n (x + 1)
theorem zeros_len (v : Int → Int) : ∀ (n : Nat) (x : Int), (zerosFrom v n x).length ≤ n
  | 0, _ => by simp [zerosFrom]
  | n + 1, x => by
    have := zeros_len v n (x + 1)
    simp only [zerosFrom]
    split <;> simp <;> omega
def rootsR (l p : List Int) : List Int × Bool := if (p.length : Int) = (l.length : Int) then (p, true) else ([], false)
theorem spec_roots_l0 (l : List Int) (v : Int → Int) (hv : ∀ x, Ev (fun k => spec_l12Value.f k l x) (v x)) : ∀ (n : Nat) (x : Int) (p : List Int), x + n = 61 → 1 ≤ x → p.length ≤ x →
    Ev (fun k => spec_RootsOf.l0 k l p x) (rootsR l (p ++ zerosFrom v n x))
  | 0, x, p, h, _, _ => by
    refine Ev.stepc (fun k => ?_)
    simp only [spec_RootsOf.l0, zerosFrom, List.append_nil, rootsR]
    rw [if_neg (by omega)]
    split <;> rfl
  | n + 1, x, p, h, h1, hp => by
    refine Ev.step (f := fun k => (spec_l12Value.f k l x).bind fun t => (if t = 0 then (if p.length < 17592186044416 then (spec_RootsOf.l0 k l (p ++ [x]) (wrap64 (x + 1))) else (none)) else (spec_RootsOf.l0 k l p (wrap64 (x + 1))))) (fun k => ?_) (Ev.bind (hv x) ?_)
    · simp only [spec_RootsOf.l0]
      rw [if_pos (by omega)]
    · have e : wrap64 (x + 1) = x + 1 := w64 (by omega) (by omega)
      have hl : p.length < 17592186044416 := by omega
      rw [e]
      by_cases c : v x = 0
      · have ih := spec_roots_l0 l v hv n (x + 1) (p ++ [x]) (by omega) (by omega) (by simp; omega)
        simp only [if_pos c, if_pos hl, zerosFrom]
        simpa using ih
      · have ih := spec_roots_l0 l v hv n (x + 1) p (by omega) (by omega) (by omega)
        simp only [if_neg c, zerosFrom]
        exact ih
theorem impl_roots_l0 (l : List Int) (v : Int → Int) (hl0 : 0 < l.length) (hv : ∀ x, Ev (fun k => impl_valueAt.f k l x) (v x)) : ∀ (n : Nat) (x : Int) (p : List Int), x + n = 61 → 1 ≤ x → p.length ≤ x →
    Ev (fun k => impl_RootsOf.l0 k l p x) (rootsR l (p ++ zerosFrom v n x))
  | 0, x, p, h, _, _ => by
    refine Ev.stepc (fun k => ?_)
    simp only [impl_RootsOf.l0, zerosFrom, List.append_nil, rootsR]
    rw [if_neg (by omega)]
    split <;> rfl
  | n + 1, x, p, h, h1, hp => by
    refine Ev.step (f := fun k => (impl_valueAt.f k l x).bind fun t => (if t = 0 then (if p.length < 17592186044416 then (impl_RootsOf.l0 k l (p ++ [x]) (wrap64 (x + 1))) else (none)) else (impl_RootsOf.l0 k l p (wrap64 (x + 1))))) (fun k => ?_) (Ev.bind (hv x) ?_)
    · simp only [impl_RootsOf.l0]
      rw [if_pos (by omega), if_pos (by omega)]
    · have e : wrap64 (x + 1) = x + 1 := w64 (by omega) (by omega)
      have hl : p.length < 17592186044416 := by omega
      rw [e]
      by_cases c : v x = 0
      · have ih := impl_roots_l0 l v hl0 hv n (x + 1) (p ++ [x]) (by omega) (by omega) (by simp; omega)
        simp only [if_pos c, if_pos hl, zerosFrom]
        simpa using ih
      · have ih := impl_roots_l0 l v hl0 hv n (x + 1) p (by omega) (by omega) (by omega)
        simp only [if_neg c, zerosFrom]
        exact ih
theorem impl_roots_nil : ∀ (n : Nat) (x : Int), x + n = 61 → 1 ≤ x → Ev (fun k => impl_RootsOf.l0 k [] [] x) ([], true)
  | 0, x, h, _ => Ev.stepc (fun k => by
      simp only [impl_RootsOf.l0]
      rw [if_neg (by omega)]
      simp)
  | n + 1, x, h, h1 => by
    have ih := impl_roots_nil n (x + 1) (by omega) (by omega)
    refine Ev.step (f := fun k => impl_RootsOf.l0 k [] [] (x + 1)) (fun k => ?_) ih
    simp only [impl_RootsOf.l0]
    rw [if_pos (by omega), if_neg (by simp), w64 (by omega) (by omega)]
theorem zeros_one : ∀ (n : Nat) (x : Int), zerosFrom (fun _ => 1) n x = []
  | 0, _ => rfl
  | n + 1, x => by simp [zerosFrom, zeros_one n (x + 1)]
theorem FnExactRootsOf : laws_FnExactRootsOf.Pure := by
  intro l _ _ _
  suffices h : Ev (fun k => laws_FnExactRootsOf.f k l) true from h.rounds
  by_cases c1 : (l.length : Int) > 1048576
  · unfold laws_FnExactRootsOf.f
    simp only [if_pos c1]
    exact Ev.now true
  · have hb : l.length ≤ 1099511627776 := by omega
    have t := toIntS_ev l hb
    obtain ⟨L, b, hL, h1, h2⟩ : ∃ (L : List Int) (b : Bool), L.length ≤ 1099511627776 ∧ Ev (fun k => spec_RootsOf.f k l) (L, b) ∧ Ev (fun k => impl_RootsOf.f k l) (L, b) := by
      unfold spec_RootsOf.f impl_RootsOf.f
      simp only [areSums_eq, Option.bind_some]
      have h1 := numbers_ev l hb
      cases c2 : sumsB l with
      | false =>
        rw [c2] at h1
        exact ⟨[], false, by simp, Ev.bind h1 (by simpa using Ev.now _), by simpa using Ev.now _⟩
      | true =>
        rw [c2] at h1
        simp only [if_true]
        obtain ⟨v, hv⟩ := Classical.axiomOfChoice (fun x => value_ev l hb x)
        by_cases hl0 : 0 < l.length
        · refine ⟨(rootsR l (zerosFrom v 60 1)).1, (rootsR l (zerosFrom v 60 1)).2, ?_, Ev.bind h1 ?_, ?_⟩
          · have := zeros_len v 60 1
            unfold rootsR
            split <;> simp <;> omega
          · simp only [if_true]
            exact spec_roots_l0 l v (fun x => (hv x).1) 60 1 [] (by omega) (by omega) (by simp)
          · exact impl_roots_l0 l v hl0 (fun x => (hv x).2) 60 1 [] (by omega) (by omega) (by simp)
        · have e : l = [] := List.eq_nil_of_length_eq_zero (by omega)
          subst e
          refine ⟨[], true, by simp, Ev.bind h1 ?_, impl_roots_nil 60 1 (by omega) (by omega)⟩
          simp only [if_true]
          have := spec_roots_l0 [] (fun _ => 1) (fun x => ?_) 60 1 [] (by omega) (by omega) (by simp)
          · rw [zeros_one] at this
            exact this
          · refine Ev.stepc (fun k => ?_)
            simp [spec_l12Value.f, spec_l12Value.l0]
    have e1 := eqIntS_self L hL
    have e2 := eqIntS_self l hb
    have m0 := markIntS_ev l 1 (by omega) (by omega) hb
    have m1 := markIntS_ev L 1 (by omega) (by omega) hL
    have m2 := heldIntS_ev L.length 1 (by omega) (by omega) hL
    have n1 := neg_len L
    have n2 := neg_len l
    have j2 : Ev (fun k => laws_FnExactRootsOf.j2 k (upFrom 1 L.length) (1 + (L.length : Int)) false) true := by
      refine Ev.step (fun k => by rw [laws_FnExactRootsOf.j2]) ?_
      simp only [Bool.false_eq_true, if_false]
      refine Ev.bind m2 ?_
      simp only [if_neg n1, if_true]
      exact Ev.now true
    have j1 : Ev (fun k => laws_FnExactRootsOf.j1 k l L b L false) true := by
      refine Ev.step (fun k => by rw [laws_FnExactRootsOf.j1]) ?_
      simp only [Bool.false_eq_true, if_false]
      refine Ev.bind m1 (Ev.bind m2 ?_)
      simp only [if_neg n1, if_true]
      refine Ev.bind t (Ev.bind h2 (Ev.bind e1 ?_))
      simp only [if_true, bne_self_eq_false]
      exact j2
    have j0 : Ev (fun k => laws_FnExactRootsOf.j0 k l L b l L b false) true := by
      refine Ev.step (fun k => by rw [laws_FnExactRootsOf.j0]) ?_
      simp only [Bool.false_eq_true, if_false]
      refine Ev.bind t (Ev.bind e2 ?_)
      simp only [if_true]
      refine Ev.bind m0 ?_
      simp only [if_neg n2]
      refine Ev.bind e1 ?_
      simp only [if_true, bne_self_eq_false]
      exact j1
    unfold laws_FnExactRootsOf.f
    simp only [if_neg c1]
    refine Ev.bind t (Ev.bind h1 (Ev.bind t (Ev.bind h2 (Ev.bind e1 ?_))))
    simp only [bne_self_eq_false, if_true]
    exact j0

end Go.Proofs.Ytpdpbhjdelehmaa.Pure

/- The program's SumsOf returns what the reference's returns: for all arguments, with no condition. -/
import Derived.Test.YtpdpbhjdelehmaaPDx1
import Derived.Test.YtpdpbhjdelehmaaPDx2
import Derived.Test.YtpdpbhjdelehmaaPDx3
import Derived.Test.YtpdpbhjdelehmaaPDx4
import Derived.Test.YtpdpbhjdelehmaaGoodSets
import Derived.Test.YtpdpbhjdelehmaaIntsOut
namespace Go.Proofs.Ytpdpbhjdelehmaa.Pure
open Go.RowKit Go.Proofs.Ytpdpbhjdelehmaa.PD Go.Proofs.YtpdpbhjdelehmaaW.PrintWords Go.Proofs.YtpdpbhjdelehmaaW.PrintLast
set_option linter.unusedVariables false
set_option linter.unusedSimpArgs false

/-- the products' sums behind one number more, as the machine counts: from the place d down -/
def smIn (n : Int) : Nat → List Int → List Int
  | 0, e => e
  | d + 1, e => smIn n d (e.set (d + 1) (wrap64 (rd e ((d + 1 : Nat) : Int) + wrap64 (n * rd e (d : Int)))))
def smAll (m : Nat) : List Int → List Int → List Int
  | [], e => e
  | n :: l, e => smAll m l (smIn n m e)
theorem smIn_len (n : Int) : ∀ (d : Nat) (e : List Int), (smIn n d e).length = e.length
  | 0, _ => rfl
  | d + 1, e => by rw [smIn, smIn_len n d, List.length_set]
theorem smAll_len (m : Nat) : ∀ (l e : List Int), (smAll m l e).length = e.length
  | [], _ => rfl
  | n :: l, e => by rw [smAll, smAll_len m l, smIn_len]
theorem spec_sums_l1 (u : Int) (n : Int) (l : List Int) (t i : Int) {R : List Int × Bool} : ∀ (d : Nat) (e : List Int), d < e.length → e.length ≤ 1000 →
    Ev (fun q => spec_SumsOf.l0 q u (smIn n d e) l t (wrap64 (i + 1))) R → Ev (fun q => spec_SumsOf.l1 q u e n (d : Int) l t i) R
  | 0, e, _, _, h => by
    refine Ev.step (fun q => ?_) h
    simp only [spec_SumsOf.l1]
    rw [if_neg (by omega)]
    rfl
  | d + 1, e, hd, he, h => by
    refine Ev.step (fun q => ?_) (spec_sums_l1 u n l t i d (e.set (d + 1) (wrap64 (rd e ((d + 1 : Nat) : Int) + wrap64 (n * rd e (d : Int))))) (by rw [List.length_set]; omega) (by rw [List.length_set]; omega) h)
    simp only [spec_SumsOf.l1]
    rw [if_pos (by omega), if_pos (by omega), if_pos (by omega), wpred (by omega), if_pos (by omega), if_pos (by omega), Int.toNat_natCast]
theorem impl_sums_l1 (u : Int) (n : Int) (l : List Int) (t i : Int) {R : List Int × Bool} : ∀ (d : Nat) (e : List Int), d < e.length → e.length ≤ 1000 →
    Ev (fun q => impl_SumsOf.l0 q u (smIn n d e) l t (wrap64 (i + 1))) R → Ev (fun q => impl_SumsOf.l1 q u e n (d : Int) l t i) R
  | 0, e, _, _, h => by
    refine Ev.step (fun q => ?_) h
    simp only [impl_SumsOf.l1]
    rw [if_neg (by omega)]
    rfl
  | d + 1, e, hd, he, h => by
    refine Ev.step (fun q => ?_) (impl_sums_l1 u n l t i d (e.set (d + 1) (wrap64 (rd e ((d + 1 : Nat) : Int) + wrap64 (n * rd e (d : Int))))) (by rw [List.length_set]; omega) (by rw [List.length_set]; omega) h)
    simp only [impl_SumsOf.l1]
    rw [if_pos (by omega), if_pos (by omega), if_pos (by omega), wpred (by omega), if_pos (by omega), if_pos (by omega), Int.toNat_natCast]
theorem spec_sums_l0 (m : Nat) (l : List Int) (hb : l.length ≤ 1099511627776) : ∀ (d i : Nat) (e : List Int), i + d = l.length → m < e.length → e.length ≤ 1000 →
    Ev (fun q => spec_SumsOf.l0 q (m : Int) e l (l.length : Int) (i : Int)) ((smAll m (l.drop i) e).drop 1, true)
  | 0, i, e, h, hm, he => by
    rw [show l.drop i = [] from List.drop_eq_nil_of_le (by omega)]
    refine Ev.stepc (fun q => ?_)
    simp only [spec_SumsOf.l0]
    rw [if_neg (by omega), Option.bind_some, if_pos (by omega), Option.bind_some, if_pos (by simp; omega)]
    rfl
  | d + 1, i, e, h, hm, he => by
    rw [drop_rd l i (by omega)]
    have ih := spec_sums_l0 m l hb d (i + 1) (smIn (rd l (i : Int)) m e) (by omega) (by rw [smIn_len]; omega) (by rw [smIn_len]; omega)
    rw [← wnat (by omega)] at ih
    refine Ev.step (fun q => ?_) (spec_sums_l1 (m : Int) (rd l (i : Int)) l (l.length : Int) (i : Int) m e hm he ih)
    simp only [spec_SumsOf.l0]
    rw [if_pos (by omega), if_pos (by omega), if_pos (by omega)]
theorem impl_sums_l0 (m : Nat) (l : List Int) (hb : l.length ≤ 1099511627776) : ∀ (d i : Nat) (e : List Int), i + d = l.length → m < e.length → e.length ≤ 1000 →
    Ev (fun q => impl_SumsOf.l0 q (m : Int) e l (l.length : Int) (i : Int)) ((smAll m (l.drop i) e).drop 1, true)
  | 0, i, e, h, hm, he => by
    rw [show l.drop i = [] from List.drop_eq_nil_of_le (by omega)]
    refine Ev.stepc (fun q => ?_)
    simp only [impl_SumsOf.l0]
    rw [if_neg (by omega), if_pos (by omega)]
    rfl
  | d + 1, i, e, h, hm, he => by
    rw [drop_rd l i (by omega)]
    have ih := impl_sums_l0 m l hb d (i + 1) (smIn (rd l (i : Int)) m e) (by omega) (by rw [smIn_len]; omega) (by rw [smIn_len]; omega)
    rw [← wnat (by omega)] at ih
    refine Ev.step (fun q => ?_) (impl_sums_l1 (m : Int) (rd l (i : Int)) l (l.length : Int) (i : Int) m e hm he ih)
    simp only [impl_SumsOf.l0]
    rw [if_pos (by omega), if_pos (by omega), if_pos (by omega)]
theorem FnExactSumsOf : laws_FnExactSumsOf.Pure := by
  intro l a _ _ _ _
  suffices h : Ev (fun k => laws_FnExactSumsOf.f k l a) true from h.rounds
  by_cases c1 : (l.length : Int) > 1048576
  · unfold laws_FnExactSumsOf.f
    simp only [if_pos c1]
    exact Ev.now true
  · have hb : l.length ≤ 1099511627776 := by omega
    have t := toIntS_ev l hb
    obtain ⟨L, b, hL, h1, h2⟩ : ∃ (L : List Int) (b : Bool), L.length ≤ 1099511627776 ∧ Ev (fun k => spec_SumsOf.f k l a) (L, b) ∧ Ev (fun k => impl_SumsOf.f k l a) (L, b) := by
      unfold spec_SumsOf.f impl_SumsOf.f spec_l12Upto.f impl_isLack.f
      simp only [l1In_eq, within_eq, Option.bind_some]
      have g1 := spec_good_ev l hb
      have g2 := impl_good_ev l hb
      have j1 : Ev (fun k => spec_SumsOf.j0 k l a true) (([] : List Int), false) := Ev.stepc (fun k => by simp [spec_SumsOf.j0])
      have j2 : Ev (fun k => impl_SumsOf.j0 k l a true) (([] : List Int), false) := Ev.stepc (fun k => by simp [impl_SumsOf.j0])
      generalize (decide ((l.length : Int) ≤ 20) && (l.all (inB 1 60) && ris l)) = gd at g1 g2
      cases gd with
      | false => exact ⟨[], false, by simp, Ev.bind g1 (by simpa using j1), Ev.bind g2 (by simpa using j2)⟩
      | true =>
        cases c3 : inB 0 4 a with
        | false => exact ⟨[], false, by simp, Ev.bind g1 (by simpa using j1), Ev.bind g2 (by simpa using j2)⟩
        | true =>
          have c4 : 0 ≤ a ∧ a ≤ 4 := by simpa [inB] using c3
          obtain ⟨m, rfl⟩ := Int.eq_ofNat_of_zero_le c4.1
          have e0 : ((List.replicate (m + 1) (0 : Int)).set 0 1).length = m + 1 := by simp
          refine ⟨(smAll m l ((List.replicate (m + 1) (0 : Int)).set 0 1)).drop 1, true, by rw [List.length_drop, smAll_len, e0]; omega, Ev.bind g1 ?_, Ev.bind g2 ?_⟩
          · simp only [if_true, Bool.not_true]
            have h := spec_sums_l0 m l hb l.length 0 ((List.replicate (m + 1) (0 : Int)).set 0 1) (by omega) (by omega) (by omega)
            rw [List.drop_zero] at h
            refine Ev.step (fun q => ?_) h
            simp only [spec_SumsOf.j0]
            rw [if_neg (by decide), wnat (by omega), if_pos (by omega), Int.toNat_natCast, if_pos (by omega), Option.bind_some, if_pos (by simp <;> omega)]
            rfl
          · simp only [if_true, Bool.not_true]
            have h := impl_sums_l0 m l hb l.length 0 ((List.replicate (m + 1) (0 : Int)).set 0 1) (by omega) (by omega) (by omega)
            rw [List.drop_zero] at h
            refine Ev.step (fun q => ?_) h
            simp only [impl_SumsOf.j0]
            rw [if_neg (by decide), wnat (by omega), if_pos (by omega), Int.toNat_natCast, if_pos (by omega), Option.bind_some, if_pos (by simp <;> omega)]
            rfl
    have e1 := eqIntS_self L hL
    have e2 := eqIntS_self l hb
    have m0 := markIntS_ev l 1 (by omega) (by omega) hb
    have m1 := markIntS_ev L 1 (by omega) (by omega) hL
    have m2 := heldIntS_ev L.length 1 (by omega) (by omega) hL
    have n1 := neg_len L
    have n2 := neg_len l
    have j2 : Ev (fun k => laws_FnExactSumsOf.j2 k (upFrom 1 L.length) (1 + (L.length : Int)) false) true := by
      refine Ev.step (fun k => by rw [laws_FnExactSumsOf.j2]) ?_
      simp only [Bool.false_eq_true, if_false]
      refine Ev.bind m2 ?_
      simp only [if_neg n1, if_true]
      exact Ev.now true
    have j1 : Ev (fun k => laws_FnExactSumsOf.j1 k l a L b L false) true := by
      refine Ev.step (fun k => by rw [laws_FnExactSumsOf.j1]) ?_
      simp only [Bool.false_eq_true, if_false]
      refine Ev.bind m1 (Ev.bind m2 ?_)
      simp only [if_neg n1, if_true]
      refine Ev.bind t (Ev.bind h2 (Ev.bind e1 ?_))
      simp only [if_true, bne_self_eq_false]
      exact j2
    have j0 : Ev (fun k => laws_FnExactSumsOf.j0 k l a L b l L b false) true := by
      refine Ev.step (fun k => by rw [laws_FnExactSumsOf.j0]) ?_
      simp only [Bool.false_eq_true, if_false]
      refine Ev.bind t (Ev.bind e2 ?_)
      simp only [if_true]
      refine Ev.bind m0 ?_
      simp only [if_neg n2]
      refine Ev.bind e1 ?_
      simp only [if_true, bne_self_eq_false]
      exact j1
    unfold laws_FnExactSumsOf.f
    simp only [if_neg c1]
    refine Ev.bind t (Ev.bind h1 (Ev.bind t (Ev.bind h2 (Ev.bind e1 ?_))))
    simp only [bne_self_eq_false, if_true]
    exact j0

end Go.Proofs.Ytpdpbhjdelehmaa.Pure

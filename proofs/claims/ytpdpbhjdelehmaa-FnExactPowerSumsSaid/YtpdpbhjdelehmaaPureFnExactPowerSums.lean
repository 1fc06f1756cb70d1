/- The program's PowerSums returns what the reference's returns: for all arguments, with no condition. -/
import Derived.Test.YtpdpbhjdelehmaaPAx3
import Derived.Test.YtpdpbhjdelehmaaPAx4
import Derived.Test.YtpdpbhjdelehmaaPAx6
import Derived.Test.YtpdpbhjdelehmaaPAx7
import Derived.Test.YtpdpbhjdelehmaaPureFnExactGoodSet
import Derived.Test.YtpdpbhjdelehmaaIntsOut
import Derived.Test.YtpdpbhjdelehmaaTab
namespace Go.Proofs.Ytpdpbhjdelehmaa.Pure
open Go.RowKit Go.Proofs.Ytpdpbhjdelehmaa.PA Go.Proofs.YtpdpbhjdelehmaaW.PrintWords Go.Proofs.YtpdpbhjdelehmaaW.PrintLast
set_option linter.unusedVariables false
set_option linter.unusedSimpArgs false

/-- powers, and the sums of powers of a list's numbers, as the machine counts (whatever goes round) -/
def pw (n : Int) : Nat → Int
  | 0 => 1
  | j + 1 => wrap64 (pw n j * n)
def sp (k : Nat) (s : Int) : List Int → Int
  | [] => s
  | n :: l => sp k (wrap64 (s + pw n k)) l
theorem spec_pow_l2 (l : List Int) (u : Int) (p : List Int) (k : Nat) (hk : k ≤ 4611686018427387904) (s n : Int) (i r : Int) {R : List Int}
    (h : Ev (fun q => spec_l12Powers.l1 q l u p (k : Int) (wrap64 (s + pw n k)) l i (wrap64 (r + 1))) R) : ∀ (d j : Nat), j + d = k →
    Ev (fun q => spec_l12Powers.l2 q l u p (k : Int) s n (pw n j) (j : Int) l i r) R
  | 0, j, e => by
    have hj : j = k := by omega
    subst hj
    refine Ev.step (fun q => ?_) h
    simp only [spec_l12Powers.l2]
    rw [if_neg (by omega)]
  | d + 1, j, e => by
    refine Ev.step (fun q => ?_) (spec_pow_l2 l u p k hk s n i r h d (j + 1) (by omega))
    simp only [spec_l12Powers.l2]
    rw [if_pos (by omega), wnat (by omega)]
    rfl
theorem spec_pow_l1 (l : List Int) (hb : l.length ≤ 1099511627776) (u : Int) (p : List Int) (hp : p.length < 17592186044416) (k : Nat) (hk : k ≤ 100) {R : List Int} : ∀ (d i : Nat) (s : Int), i + d = l.length →
    Ev (fun q => spec_l12Powers.l0 q l u (p ++ [sp k s (l.drop i)]) ((k + 1 : Nat) : Int)) R → Ev (fun q => spec_l12Powers.l1 q l u p (k : Int) s l (l.length : Int) (i : Int)) R
  | 0, i, s, e, h => by
    rw [List.drop_eq_nil_of_le (by omega)] at h
    refine Ev.step (fun q => ?_) h
    simp only [spec_l12Powers.l1]
    rw [if_neg (by omega), if_pos hp, wnat (by omega)]
    rfl
  | d + 1, i, s, e, h => by
    rw [drop_rd l i (by omega)] at h
    have ih := spec_pow_l1 l hb u p hp k hk d (i + 1) (wrap64 (s + pw (rd l (i : Int)) k)) (by omega) h
    rw [← wnat (by omega)] at ih
    refine Ev.step (fun q => ?_) (spec_pow_l2 l u p k (by omega) s (rd l (i : Int)) (l.length : Int) (i : Int) ih k 0 (by omega))
    simp only [spec_l12Powers.l1]
    rw [if_pos (by omega), if_pos (by omega), if_pos (by omega)]
    rfl
theorem spec_pow_l0 (l : List Int) (hb : l.length ≤ 1099511627776) (m : Nat) (hm : m ≤ 4) : ∀ (d j : Nat), j + d = m →
    Ev (fun q => spec_l12Powers.l0 q l (m : Int) (tab (fun i => sp (i + 1) 0 l) j) ((j + 1 : Nat) : Int)) (tab (fun i => sp (i + 1) 0 l) m)
  | 0, j, e => by
    have hj : j = m := by omega
    subst hj
    refine Ev.stepc (fun q => ?_)
    simp only [spec_l12Powers.l0]
    rw [if_neg (by omega)]
  | d + 1, j, e => by
    have ih := spec_pow_l0 l hb m hm d (j + 1) (by omega)
    have h1 := spec_pow_l1 l hb (m : Int) (tab (fun i => sp (i + 1) 0 l) j) (by rw [tab_len]; omega) (j + 1) (by omega) (R := tab (fun i => sp (i + 1) 0 l) m) l.length 0 0 (by omega) (by rw [tab_snoc] at ih; exact ih)
    refine Ev.step (fun q => ?_) h1
    simp only [spec_l12Powers.l0]
    rw [if_pos (by omega)]
    rfl
theorem spec_powers_ev (l : List Int) (hb : l.length ≤ 1099511627776) (m : Nat) (hm : m ≤ 4) : Ev (fun q => spec_l12Powers.f q l (m : Int)) (tab (fun i => sp (i + 1) 0 l) m) :=
  spec_pow_l0 l hb m hm m 0 (by omega)
/-- the inner loop: the places ahead of j have got n's power already -/
theorem impl_pow_l1 (l : List Int) (m : Nat) (hm : m ≤ 4) (n : Int) (g : Nat → Int) (i r : Int) {R : List Int}
    (h : Ev (fun q => impl_powerSums.l0 q (tab (fun x => wrap64 (g x + pw n (x + 1))) m) l i (wrap64 (r + 1))) R) : ∀ (d j : Nat), j + d = m →
    Ev (fun q => impl_powerSums.l1 q (tab (fun x => if x < j then wrap64 (g x + pw n (x + 1)) else g x) m) n (pw n j) l i r (m : Int) (j : Int)) R
  | 0, j, e => by
    have hj : j = m := by omega
    subst hj
    refine Ev.step (fun q => ?_) h
    simp only [impl_powerSums.l1]
    rw [if_neg (by omega)]
    rw [tab_congr (g := fun x => if x < j then wrap64 (g x + pw n (x + 1)) else g x) (g' := fun x => wrap64 (g x + pw n (x + 1))) (fun x hx => if_pos hx)]
  | d + 1, j, e => by
    refine Ev.step (fun q => ?_) (impl_pow_l1 l m hm n g i r h d (j + 1) (by omega))
    simp only [impl_powerSums.l1]
    rw [if_pos (by omega), if_pos (by omega), if_pos (by rw [tab_len]; omega), wnat (by omega), tab_rd _ _ _ (by omega), if_neg (by omega), Int.toNat_natCast, tab_set]
    have e1 : tab (fun x => if x = j then wrap64 (g j + wrap64 (pw n j * n)) else if x < j then wrap64 (g x + pw n (x + 1)) else g x) m = tab (fun x => if x < j + 1 then wrap64 (g x + pw n (x + 1)) else g x) m := by
      refine tab_congr fun x _ => ?_
      by_cases h1 : x = j
      · subst h1
        rw [if_pos rfl, if_pos (by omega)]
        rfl
      · rw [if_neg h1]
        by_cases h2 : x < j
        · rw [if_pos h2, if_pos (by omega)]
        · rw [if_neg h2, if_neg (by omega)]
    rw [e1]
    rfl
theorem impl_pow_l0 (l : List Int) (hb : l.length ≤ 1099511627776) (m : Nat) (hm : m ≤ 4) : ∀ (d i : Nat) (g : Nat → Int), i + d = l.length →
    Ev (fun q => impl_powerSums.l0 q (tab g m) l (l.length : Int) (i : Int)) (tab (fun x => sp (x + 1) (g x) (l.drop i)) m)
  | 0, i, g, e => by
    rw [List.drop_eq_nil_of_le (by omega)]
    refine Ev.stepc (fun q => ?_)
    simp only [impl_powerSums.l0]
    rw [if_neg (by omega)]
    rfl
  | d + 1, i, g, e => by
    have ih := impl_pow_l0 l hb m hm d (i + 1) (fun x => wrap64 (g x + pw (rd l (i : Int)) (x + 1))) (by omega)
    rw [← wnat (by omega)] at ih
    rw [drop_rd l i (by omega)]
    have h1 := impl_pow_l1 l m hm (rd l (i : Int)) g (l.length : Int) (i : Int) ih m 0 (by omega)
    refine Ev.step (fun q => ?_) h1
    simp only [impl_powerSums.l0]
    rw [if_pos (by omega), if_pos (by omega), if_pos (by omega), tab_len, tab_congr (g := fun x => if x < 0 then wrap64 (g x + pw (rd l (i : Int)) (x + 1)) else g x) (g' := g) (fun x _ => if_neg (by omega))]
    rfl
theorem impl_powers_ev (l : List Int) (hb : l.length ≤ 1099511627776) (m : Nat) (hm : m ≤ 4) : Ev (fun q => impl_powerSums.f q l (m : Int)) (tab (fun i => sp (i + 1) 0 l) m) := by
  have h := impl_pow_l0 l hb m hm l.length 0 (fun _ => 0) (by omega)
  unfold impl_powerSums.f
  have h1 : (0 : Int) ≤ (m : Int) := by omega
  have h2 : ((m : Int) : Int).toNat ≤ 35184372088832 := by omega
  simp only [if_pos h1, if_pos h2]
  rw [Int.toNat_natCast, tab_rep]
  exact h
theorem FnExactPowerSums : laws_FnExactPowerSums.Pure := by
  intro l a _ _ _ _
  suffices h : Ev (fun k => laws_FnExactPowerSums.f k l a) true from h.rounds
  by_cases c1 : (l.length : Int) > 1048576
  · unfold laws_FnExactPowerSums.f
    simp only [if_pos c1]
    exact Ev.now true
  · have hb : l.length ≤ 1099511627776 := by omega
    have t := toIntS_ev l hb
    obtain ⟨L, b, hL, h1, h2⟩ : ∃ (L : List Int) (b : Bool), L.length ≤ 1099511627776 ∧ Ev (fun k => spec_PowerSums.f k l a) (L, b) ∧ Ev (fun k => impl_PowerSums.f k l a) (L, b) := by
      unfold spec_PowerSums.f impl_PowerSums.f spec_l12Upto.f impl_isLack.f
      simp only [l1In_eq, within_eq, Option.bind_some]
      have g1 := spec_good_ev l hb
      have g2 := impl_good_ev l hb
      generalize (decide ((l.length : Int) ≤ 20) && (l.all (inB 1 60) && ris l)) = gd at g1 g2
      cases gd with
      | false => exact ⟨[], false, by simp, Ev.bind g1 (by simpa using Ev.now _), Ev.bind g2 (by simpa using Ev.now _)⟩
      | true =>
        cases c3 : inB 0 4 a with
        | false => exact ⟨[], false, by simp, Ev.bind g1 (by simpa using Ev.now _), Ev.bind g2 (by simpa using Ev.now _)⟩
        | true =>
          have c4 : 0 ≤ a ∧ a ≤ 4 := by simpa [inB] using c3
          obtain ⟨m, rfl⟩ := Int.eq_ofNat_of_zero_le c4.1
          refine ⟨tab (fun i => sp (i + 1) 0 l) m, true, by rw [tab_len]; omega, Ev.bind g1 ?_, Ev.bind g2 ?_⟩
          · simp only [if_true]
            exact Ev.bind (spec_powers_ev l hb m (by omega)) (Ev.now _)
          · simp only [if_true]
            exact Ev.bind (impl_powers_ev l hb m (by omega)) (Ev.now _)
    have e1 := eqIntS_self L hL
    have e2 := eqIntS_self l hb
    have m0 := markIntS_ev l 1 (by omega) (by omega) hb
    have m1 := markIntS_ev L 1 (by omega) (by omega) hL
    have m2 := heldIntS_ev L.length 1 (by omega) (by omega) hL
    have n1 := neg_len L
    have n2 := neg_len l
    have j2 : Ev (fun k => laws_FnExactPowerSums.j2 k (upFrom 1 L.length) (1 + (L.length : Int)) false) true := by
      refine Ev.step (fun k => by rw [laws_FnExactPowerSums.j2]) ?_
      simp only [Bool.false_eq_true, if_false]
      refine Ev.bind m2 ?_
      simp only [if_neg n1, if_true]
      exact Ev.now true
    have j1 : Ev (fun k => laws_FnExactPowerSums.j1 k l a L b L false) true := by
      refine Ev.step (fun k => by rw [laws_FnExactPowerSums.j1]) ?_
      simp only [Bool.false_eq_true, if_false]
      refine Ev.bind m1 (Ev.bind m2 ?_)
      simp only [if_neg n1, if_true]
      refine Ev.bind t (Ev.bind h2 (Ev.bind e1 ?_))
      simp only [if_true, bne_self_eq_false]
      exact j2
    have j0 : Ev (fun k => laws_FnExactPowerSums.j0 k l a L b l L b false) true := by
      refine Ev.step (fun k => by rw [laws_FnExactPowerSums.j0]) ?_
      simp only [Bool.false_eq_true, if_false]
      refine Ev.bind t (Ev.bind e2 ?_)
      simp only [if_true]
      refine Ev.bind m0 ?_
      simp only [if_neg n2]
      refine Ev.bind e1 ?_
      simp only [if_true, bne_self_eq_false]
      exact j1
    unfold laws_FnExactPowerSums.f
    simp only [if_neg c1]
    refine Ev.bind t (Ev.bind h1 (Ev.bind t (Ev.bind h2 (Ev.bind e1 ?_))))
    simp only [bne_self_eq_false, if_true]
    exact j0

end Go.Proofs.Ytpdpbhjdelehmaa.Pure

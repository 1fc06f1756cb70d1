/- Plain lemmas on what the printed functions answer: numbers and lists alone. -/
import Derived.Test.YtlfgkodipeofiaaPFx0
import Derived.Test.YtlfgkodipeofiaaPFx2
import Derived.Test.YtlfgkodipeofiaaNums
import Derived.Test.YtlfgkodipeofiaaMarkTexts
namespace Go.Proofs.Ytlfgkodipeofiaa.Pure
open Go.RowKit Go.Proofs.Ytlfgkodipeofiaa.PF Go.Proofs.YtlfgkodipeofiaaW.PrintWords Go.Proofs.YtlfgkodipeofiaaW.PrintLast
set_option linter.unusedVariables false
set_option linter.unusedSimpArgs false

theorem rd_set59 (l : List S59) (i : Nat) (v : S59) (h : i < l.length) : rd_T59 (l.set i v) (i : Int) = v := by
  simp [rd_T59, List.getD_eq_getElem?_getD, h]
noncomputable def mkPart (a : Int) : S59 := ⟨(a), (a + 1), mt (a + 1 + 1)⟩
noncomputable def mksPart (m : Int) : Nat → List S59
  | 0 => []
  | n + 1 => mkPart m :: mksPart (m + 3) n
theorem mksPart_length : ∀ (m : Int) (n : Nat), (mksPart m n).length = n
  | _, 0 => rfl
  | m, n + 1 => by simp [mksPart, mksPart_length (m + 3) n]
theorem mksPart_snoc : ∀ (m : Int) (n : Nat), mksPart m (n + 1) = mksPart m n ++ [mkPart (m + 3 * (n : Int))]
  | m, 0 => by simp [mksPart]
  | m, n + 1 => by
    rw [mksPart, mksPart_snoc (m + 3) n]
    simp only [mksPart, List.cons_append, List.cons.injEq, true_and]
    congr 3
    omega
theorem mksPart_rd : ∀ (j n : Nat) (m : Int), j < n → rd_T59 (mksPart m n) (j : Int) = mkPart (m + 3 * (j : Int))
  | 0, n + 1, m, _ => by simp [rd_T59, mksPart]
  | j + 1, n + 1, m, h => by
    have ih := mksPart_rd j n (m + 3) (by omega)
    simp only [rd_T59, Int.toNat_natCast, mksPart, List.getD_cons_succ] at ih ⊢
    rw [ih]
    congr 1
    omega
theorem markPartS_l0 (m : Int) (n : Nat) (hm : 0 ≤ m) (hm2 : m ≤ 1099511627776) (hn : n ≤ 1099511627776) : ∀ (q : List S59) (i : Nat) (a : Int), a = m + 3 * (i : Int) → i + q.length = n →
    Ev (fun k => laws_markPartS.l0 k (mksPart m i ++ q) a (i : Int)) (m + 3 * (n : Int), mksPart m n)
  | [], i, a, ha, h => by
    have hi : i = n := by simpa using h
    subst hi
    subst ha
    refine Ev.stepc (fun k => ?_)
    simp only [laws_markPartS.l0]
    rw [if_neg (by simp [mksPart_length])]
    simp
  | x :: q, i, a, ha, h => by
    have h' : i + q.length + 1 = n := by simpa [Nat.add_assoc] using h
    have ih := markPartS_l0 m n hm hm2 hn q (i + 1) (a + 1 + 1 + 1) (by omega) (by omega)
    have hl : i < (mksPart m i ++ x :: q).length := by simp [mksPart_length]
    refine Ev.stepE (K := 70) (f := fun k => laws_markPartS.l0 k (mksPart m (i + 1) ++ q) (a + 1 + 1 + 1) ((i + 1 : Nat) : Int)) (fun k hk => ?_) ih
    have t2 := mt_eq (a + 1 + 1) (by omega) k hk
    have es : (mksPart m i ++ x :: q).set i (mkPart a) = mksPart m (i + 1) ++ q := by
      rw [mksPart_snoc, List.set_append, ha]
      simp [mksPart_length]
    have hr := fun v => rd_set59 (mksPart m i ++ x :: q) i v hl
    have h0 : (0 : Int) ≤ (i : Int) := by omega
    have h1 : (i : Int) < ((mksPart m i ++ x :: q).length : Int) := by omega
    have hw : wrap64 ((i : Int) + 1) = ((i + 1 : Nat) : Int) := wnat (by omega)
    have b1 : -9223372036854775808 ≤ a + 1 := by omega
    have d1 : a + 1 ≤ 9223372036854775807 := by omega
    have b2 : -9223372036854775808 ≤ a + 1 + 1 := by omega
    have d2 : a + 1 + 1 ≤ 9223372036854775807 := by omega
    have b3 : -9223372036854775808 ≤ a + 1 + 1 + 1 := by omega
    have d3 : a + 1 + 1 + 1 ≤ 9223372036854775807 := by omega
    have e1 : wrap64 (a + 1) = a + 1 := w64 b1 d1
    have e2 : wrap64 (a + 1 + 1) = a + 1 + 1 := w64 b2 d2
    have e3 : wrap64 (a + 1 + 1 + 1) = a + 1 + 1 + 1 := w64 b3 d3
    simp only [laws_markPartS.l0, Option.bind_some, e1, e2, e3, Int.toNat_natCast, List.set_set, hr, if_pos h0, if_pos h1, hw, t2]
    rw [← es]
    rfl
theorem markPartS_ev (l : List S59) (m : Int) (hm : 0 ≤ m) (hm2 : m ≤ 1099511627776) (hn : l.length ≤ 1099511627776) :
    Ev (fun k => laws_markPartS.f k l m) (m + 3 * (l.length : Int), mksPart m l.length) := by
  have h := markPartS_l0 m l.length hm hm2 hn l 0 m (by omega) (by omega)
  simpa [laws_markPartS.f, mksPart] using h
theorem heldPartS_l0 (m : Int) (n : Nat) (hm : 0 ≤ m) (hm2 : m ≤ 1099511627776) (hn : n ≤ 1099511627776) : ∀ (d i : Nat) (a : Int), a = m + 3 * (i : Int) → i + d = n →
    Ev (fun k => laws_heldPartS.l0 k (mksPart m n) a (i : Int)) (m + 3 * (n : Int))
  | 0, i, a, ha, h => by
    have hi : i = n := by omega
    subst hi
    subst ha
    refine Ev.stepc (fun k => ?_)
    simp only [laws_heldPartS.l0]
    rw [if_neg (by simp [mksPart_length])]
  | d + 1, i, a, ha, h => by
    have ih := heldPartS_l0 m n hm hm2 hn d (i + 1) (a + 1 + 1 + 1) (by omega) (by omega)
    refine Ev.stepE (K := 70) (fun k hk => ?_) ih
    have t2 := mt_eq (a + 1 + 1) (by omega) k hk
    have hr := mksPart_rd i n m (by omega)
    rw [← ha] at hr
    have h0 : (0 : Int) ≤ (i : Int) := by omega
    have h1 : (i : Int) < ((mksPart m n).length : Int) := by rw [mksPart_length]; omega
    have hw : wrap64 ((i : Int) + 1) = ((i + 1 : Nat) : Int) := wnat (by omega)
    have b1 : -9223372036854775808 ≤ a + 1 := by omega
    have d1 : a + 1 ≤ 9223372036854775807 := by omega
    have b2 : -9223372036854775808 ≤ a + 1 + 1 := by omega
    have d2 : a + 1 + 1 ≤ 9223372036854775807 := by omega
    have b3 : -9223372036854775808 ≤ a + 1 + 1 + 1 := by omega
    have d3 : a + 1 + 1 + 1 ≤ 9223372036854775807 := by omega
    have e1 : wrap64 (a + 1) = a + 1 := w64 b1 d1
    have e2 : wrap64 (a + 1 + 1) = a + 1 + 1 := w64 b2 d2
    have e3 : wrap64 (a + 1 + 1 + 1) = a + 1 + 1 + 1 := w64 b3 d3
    simp only [laws_heldPartS.l0, Option.bind_some, e1, e2, e3, hr, mkPart, if_pos h0, if_pos h1, hw, t2, if_true, bne_self_eq_false, Bool.false_eq_true, if_false]
theorem heldPartS_ev (n : Nat) (m : Int) (hm : 0 ≤ m) (hm2 : m ≤ 1099511627776) (hn : n ≤ 1099511627776) :
    Ev (fun k => laws_heldPartS.f k (mksPart m n) m) (m + 3 * (n : Int)) := by
  have h := heldPartS_l0 m n hm hm2 hn n 0 m (by omega) (by omega)
  simpa [laws_heldPartS.f] using h

end Go.Proofs.Ytlfgkodipeofiaa.Pure

/- Plain lemmas on what the printed functions answer: numbers and lists alone. -/
import Derived.Test.YtjpeedbabjaidaaPBx0
import Derived.Test.YtjpeedbabjaidaaPBx5
import Derived.Test.YtjpeedbabjaidaaPBx6
import Derived.Test.YtjpeedbabjaidaaPBx7
import Derived.Test.YtjpeedbabjaidaaAlls
import Derived.Test.YtjpeedbabjaidaaMarkTexts
namespace Go.Proofs.Ytjpeedbabjaidaa.Pure
open Go.RowKit Go.Proofs.Ytjpeedbabjaidaa.PB Go.Proofs.YtjpeedbabjaidaaW.PrintWords Go.Proofs.YtjpeedbabjaidaaW.PrintLast
set_option linter.unusedVariables false
set_option linter.unusedSimpArgs false

theorem eqRecordS_l0 (a : List Q) (hb : a.length ≤ 1099511627776) : ∀ (d i : Nat), i + d = a.length → Ev (fun k => laws_eqRecordS.l0 k a a (i : Int)) true
  | 0, i, h => Ev.stepc (fun k => by
      simp only [laws_eqRecordS.l0]
      rw [if_neg (by omega)])
  | d + 1, i, h => by
    refine Ev.step (fun k => ?_) (eqRecordS_l0 a hb d (i + 1) (by omega))
    simp only [laws_eqRecordS.l0, laws_eqRecord.f]
    rw [if_pos (by omega), if_pos (by omega), if_pos (by omega), wnat (by omega)]
    simp
theorem eqRecordS_self (a : List Q) (hb : a.length ≤ 1099511627776) : Ev (fun k => laws_eqRecordS.f k a a) true := by
  unfold laws_eqRecordS.f
  simp only [if_true]
  exact eqRecordS_l0 a hb a.length 0 (by omega)
theorem rd_set27 (l : List S27) (i : Nat) (v : S27) (h : i < l.length) : rd_T27 (l.set i v) (i : Int) = v := by
  simp [rd_T27, List.getD_eq_getElem?_getD, h]
noncomputable def mkRecord (a : Int) : S27 := ⟨(a), (a + 1), (a + 1 + 1), mt (a + 1 + 1 + 1)⟩
noncomputable def mksRecord (m : Int) : Nat → List S27
  | 0 => []
  | n + 1 => mkRecord m :: mksRecord (m + 4) n
theorem mksRecord_length : ∀ (m : Int) (n : Nat), (mksRecord m n).length = n
  | _, 0 => rfl
  | m, n + 1 => by simp [mksRecord, mksRecord_length (m + 4) n]
theorem mksRecord_snoc : ∀ (m : Int) (n : Nat), mksRecord m (n + 1) = mksRecord m n ++ [mkRecord (m + 4 * (n : Int))]
  | m, 0 => by simp [mksRecord]
  | m, n + 1 => by
    rw [mksRecord, mksRecord_snoc (m + 4) n]
    simp only [mksRecord, List.cons_append, List.cons.injEq, true_and]
    congr 3
    omega
theorem mksRecord_rd : ∀ (j n : Nat) (m : Int), j < n → rd_T27 (mksRecord m n) (j : Int) = mkRecord (m + 4 * (j : Int))
  | 0, n + 1, m, _ => by simp [rd_T27, mksRecord]
  | j + 1, n + 1, m, h => by
    have ih := mksRecord_rd j n (m + 4) (by omega)
    simp only [rd_T27, Int.toNat_natCast, mksRecord, List.getD_cons_succ] at ih ⊢
    rw [ih]
    congr 1
    omega
theorem markRecordS_l0 (m : Int) (n : Nat) (hm : 0 ≤ m) (hm2 : m ≤ 1099511627776) (hn : n ≤ 1099511627776) : ∀ (q : List S27) (i : Nat) (a : Int), a = m + 4 * (i : Int) → i + q.length = n →
    Ev (fun k => laws_markRecordS.l0 k (mksRecord m i ++ q) a (i : Int)) (m + 4 * (n : Int), mksRecord m n)
  | [], i, a, ha, h => by
    have hi : i = n := by simpa using h
    subst hi
    subst ha
    refine Ev.stepc (fun k => ?_)
    simp only [laws_markRecordS.l0]
    rw [if_neg (by simp [mksRecord_length])]
    simp
  | x :: q, i, a, ha, h => by
    have h' : i + q.length + 1 = n := by simpa [Nat.add_assoc] using h
    have ih := markRecordS_l0 m n hm hm2 hn q (i + 1) (a + 1 + 1 + 1 + 1) (by omega) (by omega)
    have hl : i < (mksRecord m i ++ x :: q).length := by simp [mksRecord_length]
    refine Ev.stepE (K := 70) (f := fun k => laws_markRecordS.l0 k (mksRecord m (i + 1) ++ q) (a + 1 + 1 + 1 + 1) ((i + 1 : Nat) : Int)) (fun k hk => ?_) ih
    have t3 := mt_eq (a + 1 + 1 + 1) (by omega) k hk
    have es : (mksRecord m i ++ x :: q).set i (mkRecord a) = mksRecord m (i + 1) ++ q := by
      rw [mksRecord_snoc, List.set_append, ha]
      simp [mksRecord_length]
    have hr := fun v => rd_set27 (mksRecord m i ++ x :: q) i v hl
    have h0 : (0 : Int) ≤ (i : Int) := by omega
    have h1 : (i : Int) < ((mksRecord m i ++ x :: q).length : Int) := by omega
    have hw : wrap64 ((i : Int) + 1) = ((i + 1 : Nat) : Int) := wnat (by omega)
    have b1 : -9223372036854775808 ≤ a + 1 := by omega
    have d1 : a + 1 ≤ 9223372036854775807 := by omega
    have b2 : -9223372036854775808 ≤ a + 1 + 1 := by omega
    have d2 : a + 1 + 1 ≤ 9223372036854775807 := by omega
    have b3 : -9223372036854775808 ≤ a + 1 + 1 + 1 := by omega
    have d3 : a + 1 + 1 + 1 ≤ 9223372036854775807 := by omega
    have b4 : -9223372036854775808 ≤ a + 1 + 1 + 1 + 1 := by omega
    have d4 : a + 1 + 1 + 1 + 1 ≤ 9223372036854775807 := by omega
    have e1 : wrap64 (a + 1) = a + 1 := w64 b1 d1
    have e2 : wrap64 (a + 1 + 1) = a + 1 + 1 := w64 b2 d2
    have e3 : wrap64 (a + 1 + 1 + 1) = a + 1 + 1 + 1 := w64 b3 d3
    have e4 : wrap64 (a + 1 + 1 + 1 + 1) = a + 1 + 1 + 1 + 1 := w64 b4 d4
    simp only [laws_markRecordS.l0, Option.bind_some, e1, e2, e3, e4, Int.toNat_natCast, List.set_set, hr, if_pos h0, if_pos h1, hw, t3]
    rw [← es]
    rfl
theorem markRecordS_ev (l : List S27) (m : Int) (hm : 0 ≤ m) (hm2 : m ≤ 1099511627776) (hn : l.length ≤ 1099511627776) :
    Ev (fun k => laws_markRecordS.f k l m) (m + 4 * (l.length : Int), mksRecord m l.length) := by
  have h := markRecordS_l0 m l.length hm hm2 hn l 0 m (by omega) (by omega)
  simpa [laws_markRecordS.f, mksRecord] using h
theorem heldRecordS_l0 (m : Int) (n : Nat) (hm : 0 ≤ m) (hm2 : m ≤ 1099511627776) (hn : n ≤ 1099511627776) : ∀ (d i : Nat) (a : Int), a = m + 4 * (i : Int) → i + d = n →
    Ev (fun k => laws_heldRecordS.l0 k (mksRecord m n) a (i : Int)) (m + 4 * (n : Int))
  | 0, i, a, ha, h => by
    have hi : i = n := by omega
    subst hi
    subst ha
    refine Ev.stepc (fun k => ?_)
    simp only [laws_heldRecordS.l0]
    rw [if_neg (by simp [mksRecord_length])]
  | d + 1, i, a, ha, h => by
    have ih := heldRecordS_l0 m n hm hm2 hn d (i + 1) (a + 1 + 1 + 1 + 1) (by omega) (by omega)
    refine Ev.stepE (K := 70) (fun k hk => ?_) ih
    have t3 := mt_eq (a + 1 + 1 + 1) (by omega) k hk
    have hr := mksRecord_rd i n m (by omega)
    rw [← ha] at hr
    have h0 : (0 : Int) ≤ (i : Int) := by omega
    have h1 : (i : Int) < ((mksRecord m n).length : Int) := by rw [mksRecord_length]; omega
    have hw : wrap64 ((i : Int) + 1) = ((i + 1 : Nat) : Int) := wnat (by omega)
    have b1 : -9223372036854775808 ≤ a + 1 := by omega
    have d1 : a + 1 ≤ 9223372036854775807 := by omega
    have b2 : -9223372036854775808 ≤ a + 1 + 1 := by omega
    have d2 : a + 1 + 1 ≤ 9223372036854775807 := by omega
    have b3 : -9223372036854775808 ≤ a + 1 + 1 + 1 := by omega
    have d3 : a + 1 + 1 + 1 ≤ 9223372036854775807 := by omega
    have b4 : -9223372036854775808 ≤ a + 1 + 1 + 1 + 1 := by omega
    have d4 : a + 1 + 1 + 1 + 1 ≤ 9223372036854775807 := by omega
    have e1 : wrap64 (a + 1) = a + 1 := w64 b1 d1
    have e2 : wrap64 (a + 1 + 1) = a + 1 + 1 := w64 b2 d2
    have e3 : wrap64 (a + 1 + 1 + 1) = a + 1 + 1 + 1 := w64 b3 d3
    have e4 : wrap64 (a + 1 + 1 + 1 + 1) = a + 1 + 1 + 1 + 1 := w64 b4 d4
    simp only [laws_heldRecordS.l0, Option.bind_some, e1, e2, e3, e4, hr, mkRecord, if_pos h0, if_pos h1, hw, t3, if_true, bne_self_eq_false, Bool.false_eq_true, if_false]
theorem heldRecordS_ev (n : Nat) (m : Int) (hm : 0 ≤ m) (hm2 : m ≤ 1099511627776) (hn : n ≤ 1099511627776) :
    Ev (fun k => laws_heldRecordS.f k (mksRecord m n) m) (m + 4 * (n : Int)) := by
  have h := heldRecordS_l0 m n hm hm2 hn n 0 m (by omega) (by omega)
  simpa [laws_heldRecordS.f] using h

end Go.Proofs.Ytjpeedbabjaidaa.Pure

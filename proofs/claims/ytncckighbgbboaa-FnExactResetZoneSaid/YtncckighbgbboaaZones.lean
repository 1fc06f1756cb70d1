/- Plain lemmas on what the printed functions answer: numbers and lists alone. -/
import Derived.Test.YtncckighbgbboaaPBx0
import Derived.Test.YtncckighbgbboaaPBx1
import Derived.Test.YtncckighbgbboaaPBx2
import Derived.Test.YtncckighbgbboaaPBx3
import Derived.Test.YtncckighbgbboaaPBx4
import Derived.Test.YtncckighbgbboaaZoneS
namespace Go.Proofs.Ytncckighbgbboaa.Pure
open Go.RowKit Go.Proofs.Ytncckighbgbboaa.PB Go.Proofs.YtncckighbgbboaaW.PrintWords Go.Proofs.YtncckighbgbboaaW.PrintLast
set_option linter.unusedVariables false
set_option linter.unusedSimpArgs false

abbrev Z := S83
theorem Ev.val {α : Type} {g : Nat → Option α} {r q : α} (h : Ev g r) (e : r = q) : Ev g q := e ▸ h
def zoneB (z : Z) : Bool := decide (z.f0.size ≤ 60) && (decide (0 ≤ z.f1) && decide (z.f1 ≤ (z.f0.size : Int))) && (z.f2 || decide (z.f0.size < 60))
def openB (z : Z) : Bool := decide (z.f0.toList ≠ []) && !z.f2
def openN (l : List Z) : Nat := (l.filter openB).length
def deviceB (l : List Z) : Bool := l.all zoneB && (decide (1 ≤ l.length) && decide (l.length ≤ 6)) && decide (openN l ≤ 3)
theorem in_eq (a b c : Int) : spec_l1In.f a b c = some (decide (b ≤ a) && decide (a ≤ c)) := by
  unfold spec_l1In.f
  by_cases h : a ≥ b
  · rw [if_pos h, decide_eq_true (show b ≤ a from h)]; simp
  · rw [if_neg h, decide_eq_false (show ¬ b ≤ a from h)]; simp
theorem within_eq (a b c : Int) : impl_within.f a b c = some (decide (b ≤ a) && decide (a ≤ c)) := by
  unfold impl_within.f
  by_cases h : b ≤ a
  · rw [if_pos h, decide_eq_true h]; simp
  · rw [if_neg h, decide_eq_false h]; simp
theorem specOpen_eq (z : Z) : spec_l2Open.f z.f0 z.f1 z.f2 = some (openB z) := by
  unfold spec_l2Open.f openB
  by_cases h : z.f0.toList = []
  · rw [if_pos h]; simp [h]
  · rw [if_neg h]; simp [h]
theorem implOpen_eq (z : Z) : impl_Zone_isOpen.f z.f0 z.f1 z.f2 = some (openB z) := by
  unfold impl_Zone_isOpen.f openB
  by_cases h : z.f0.toList = []
  · rw [if_pos h]; simp [h]
  · rw [if_neg h]; simp [h]
theorem isGood_eq (z : Z) : impl_Zone_isGood.f z.f0 z.f1 z.f2 = some (zoneB z) := by
  unfold impl_Zone_isGood.f zoneB
  rw [within_eq]
  by_cases h : (z.f0.size : Int) ≤ 60
  · rw [if_pos h, decide_eq_true (show z.f0.size ≤ 60 by omega), Option.bind_some, Bool.true_and]
    cases hb : (decide (0 ≤ z.f1) && decide (z.f1 ≤ (z.f0.size : Int))) with
    | false => simp
    | true =>
      rw [if_pos rfl]
      cases z.f2 with
      | true => simp
      | false => simp; omega
  · rw [if_neg h, decide_eq_false (show ¬ z.f0.size ≤ 60 by omega)]
    simp
theorem allGood_eq : ∀ l : List Z, allO (fun z : Z => impl_Zone_isGood.f z.f0 z.f1 z.f2) l = some (l.all zoneB)
  | [] => rfl
  | z :: l => by
    rw [allO, isGood_eq, Option.bind_some, List.all_cons]
    cases zoneB z with
    | true => rw [if_pos rfl, Bool.true_and]; exact allGood_eq l
    | false => rfl
theorem open_l0 (l : List Z) (hl : l.length ≤ 1048576) : ∀ (d i : Nat) (x : List Int), i + d = l.length → x.length ≤ i →
    ∃ o, Ev (fun k => impl_Device_open.l0 k x l (l.length : Int) (i : Int)) o ∧ o.length = x.length + openN (l.drop i)
  | 0, i, x, e, _ => by
    refine ⟨x, Ev.stepc (fun k => ?_), ?_⟩
    · simp only [impl_Device_open.l0]
      rw [if_neg (by omega)]
    · rw [List.drop_eq_nil_of_le (by omega)]
      rfl
  | d + 1, i, x, e, hx => by
    have hd := drop_rd83 l i (by omega)
    cases ho : openB (rd_T83 l (i : Int)) with
    | true =>
      obtain ⟨o, h1, h2⟩ := open_l0 l hl d (i + 1) (x ++ [(i : Int)]) (by omega) (by simp; omega)
      refine ⟨o, Ev.step (fun k => ?_) h1, ?_⟩
      · simp only [impl_Device_open.l0]
        rw [if_pos (by omega), if_pos (by omega), if_pos (by omega), implOpen_eq, ho, Option.bind_some, if_pos rfl, if_pos (by omega), wnat (by omega)]
      · rw [h2, hd]
        unfold openN
        rw [List.filter_cons_of_pos ho]
        simp
        omega
    | false =>
      obtain ⟨o, h1, h2⟩ := open_l0 l hl d (i + 1) x (by omega) (by omega)
      refine ⟨o, Ev.step (fun k => ?_) h1, ?_⟩
      · simp only [impl_Device_open.l0]
        rw [if_pos (by omega), if_pos (by omega), if_pos (by omega), implOpen_eq, ho, Option.bind_some, if_neg (by decide), wnat (by omega)]
      · rw [h2, hd]
        unfold openN
        rw [List.filter_cons_of_neg (by rw [ho]; decide)]
theorem impl_good_ev (l : List Z) (hl : l.length ≤ 1048576) : Ev (fun k => impl_GoodDevice.f k l) (deviceB l) := by
  unfold impl_GoodDevice.f deviceB
  simp only [within_eq, allGood_eq, Option.bind_some]
  cases hb : (decide ((1 : Int) ≤ (l.length : Int)) && decide ((l.length : Int) ≤ 6)) with
  | false =>
    have : (decide (1 ≤ l.length) && decide (l.length ≤ 6)) = false := by rw [← hb]; congr 1 <;> congr 1 <;> simp <;> omega
    rw [this]
    simpa using Ev.now _
  | true =>
    have : (decide (1 ≤ l.length) && decide (l.length ≤ 6)) = true := by rw [← hb]; congr 1 <;> congr 1 <;> simp <;> omega
    rw [this]
    cases ha : l.all zoneB with
    | false => simpa using Ev.now _
    | true =>
      simp only [if_true]
      obtain ⟨o, h1, h2⟩ := open_l0 l hl l.length 0 [] (by omega) (by simp)
      unfold impl_Device_open.f
      refine Ev.bind h1 ?_
      rw [List.drop_zero, List.length_nil, Nat.zero_add] at h2
      rw [h2]
      refine Ev.val (Ev.now _) ?_
      simp
      omega
theorem spec_good_l0 (l : List Z) (hl : l.length ≤ 1048576) : ∀ (d i : Nat) (x : Nat), i + d = l.length → x ≤ i →
    Ev (fun k => spec_GoodDevice.l0 k (x : Int) l (l.length : Int) (i : Int) l) ((l.drop i).all zoneB && (decide (1 ≤ l.length) && decide (l.length ≤ 6)) && decide (x + openN (l.drop i) ≤ 3))
  | 0, i, x, e, _ => by
    refine Ev.stepc (fun k => ?_)
    simp only [spec_GoodDevice.l0]
    rw [if_neg (by omega), in_eq, Option.bind_some, List.drop_eq_nil_of_le (by omega)]
    have : (decide ((1 : Int) ≤ (l.length : Int)) && decide ((l.length : Int) ≤ 6)) = (decide (1 ≤ l.length) && decide (l.length ≤ 6)) := by congr 1 <;> congr 1 <;> simp <;> omega
    rw [this]
    cases (decide (1 ≤ l.length) && decide (l.length ≤ 6)) with
    | false => rfl
    | true =>
      rw [if_pos rfl]
      rw [List.all_nil, Bool.true_and, Bool.true_and]
      exact congrArg some (decide_eq_decide.2 (by simp only [openN, List.filter_nil, List.length_nil]; omega))
  | d + 1, i, x, e, hx => by
    have hd := drop_rd83 l i (by omega)
    have hj : ∀ b : Bool, (b = !(zoneB (rd_T83 l (i : Int)))) → Ev (fun k => spec_GoodDevice.j1 k (x : Int) l (l.length : Int) (i : Int) b l (rd_T83 l (i : Int)).f0 (rd_T83 l (i : Int)).f1 (rd_T83 l (i : Int)).f2) ((l.drop i).all zoneB && (decide (1 ≤ l.length) && decide (l.length ≤ 6)) && decide (x + openN (l.drop i) ≤ 3)) := by
      intro b hb
      rw [hd, List.all_cons]
      cases hz : zoneB (rd_T83 l (i : Int)) with
      | false =>
        rw [hz] at hb
        obtain rfl := hb
        refine Ev.stepc (fun k => ?_)
        simp only [spec_GoodDevice.j1]
        simp
      | true =>
        rw [hz] at hb
        obtain rfl := hb
        rw [Bool.true_and]
        cases ho : openB (rd_T83 l (i : Int)) with
        | true =>
          have ih := spec_good_l0 l hl d (i + 1) (x + 1) (by omega) (by omega)
          have e1 : openN (rd_T83 l (i : Int) :: l.drop (i + 1)) = openN (l.drop (i + 1)) + 1 := by
            unfold openN
            rw [List.filter_cons_of_pos ho, List.length_cons]
          rw [e1, show x + (openN (l.drop (i + 1)) + 1) = x + 1 + openN (l.drop (i + 1)) by omega]
          refine Ev.step (fun k => ?_) ih
          simp only [spec_GoodDevice.j1]
          rw [if_neg (by decide), specOpen_eq, ho, Option.bind_some, if_pos rfl, wnat (by omega), wnat (by omega)]
        | false =>
          have ih := spec_good_l0 l hl d (i + 1) x (by omega) (by omega)
          have e1 : openN (rd_T83 l (i : Int) :: l.drop (i + 1)) = openN (l.drop (i + 1)) := by
            unfold openN
            rw [List.filter_cons_of_neg (by rw [ho]; decide)]
          rw [e1]
          refine Ev.step (fun k => ?_) ih
          simp only [spec_GoodDevice.j1]
          rw [if_neg (by decide), specOpen_eq, ho, Option.bind_some, if_neg (by decide), wnat (by omega)]
    unfold zoneB at hj
    by_cases c1 : (((rd_T83 l (i : Int)).f0).size : Int) > 60
    · refine Ev.step (fun k => ?_) (hj true (by rw [decide_eq_false (by omega)]; rfl))
      simp only [spec_GoodDevice.l0]
      rw [if_pos (by omega), if_pos (by omega), if_pos (by omega), if_pos c1]
    · rw [decide_eq_true (show (rd_T83 l (i : Int)).f0.size ≤ 60 by omega), Bool.true_and] at hj
      cases hb : (decide (0 ≤ (rd_T83 l (i : Int)).f1) && decide ((rd_T83 l (i : Int)).f1 ≤ ((rd_T83 l (i : Int)).f0.size : Int))) with
      | false =>
        refine Ev.step (fun k => ?_) (hj true (by rw [hb]; rfl))
        simp only [spec_GoodDevice.l0]
        rw [if_pos (by omega), if_pos (by omega), if_pos (by omega), if_neg c1, in_eq, hb, Option.bind_some, if_neg (by decide)]
      | true =>
        by_cases c2 : (((rd_T83 l (i : Int)).f0).size : Int) = 60
        · refine Ev.step (fun k => ?_) (hj (!((rd_T83 l (i : Int)).f2)) (by rw [hb, decide_eq_false (by omega)]; simp))
          simp only [spec_GoodDevice.l0]
          rw [if_pos (by omega), if_pos (by omega), if_pos (by omega), if_neg c1, in_eq, hb, Option.bind_some, if_pos rfl, if_pos c2]
        · refine Ev.step (fun k => ?_) (hj false (by rw [hb, decide_eq_true (show (rd_T83 l (i : Int)).f0.size < 60 by omega)]; simp))
          simp only [spec_GoodDevice.l0]
          rw [if_pos (by omega), if_pos (by omega), if_pos (by omega), if_neg c1, in_eq, hb, Option.bind_some, if_pos rfl, if_neg c2]
theorem spec_good_ev (l : List Z) (hl : l.length ≤ 1048576) : Ev (fun k => spec_GoodDevice.f k l) (deviceB l) := by
  have h := spec_good_l0 l hl l.length 0 0 (by omega) (by omega)
  simpa [spec_GoodDevice.f, deviceB] using h
def thereB (l : List Z) (a : Int) : Bool := deviceB l && (decide (0 ≤ a) && decide (a < (l.length : Int)))
theorem spec_there_ev (l : List Z) (hl : l.length ≤ 1048576) (a : Int) : Ev (fun k => spec_l2There.f k l a) (thereB l a) := by
  unfold spec_l2There.f thereB
  refine Ev.bind (spec_good_ev l hl) ?_
  cases deviceB l with
  | false => simpa using Ev.now _
  | true =>
    by_cases h : a ≥ 0
    · simp only [if_true, if_pos h, decide_eq_true (show 0 ≤ a from h), Bool.true_and]
      exact Ev.now _
    · simp only [if_true, if_neg h, decide_eq_false (show ¬ 0 ≤ a from h), Bool.false_and, Bool.and_false]
      exact Ev.now _
theorem impl_there_ev (l : List Z) (hl : l.length ≤ 1048576) (a : Int) : Ev (fun k => impl_zoned.f k l a) (thereB l a) := by
  unfold impl_zoned.f thereB
  refine Ev.bind (impl_good_ev l hl) ?_
  cases deviceB l with
  | false => simpa using Ev.now _
  | true =>
    rw [w64 (by omega) (by omega)]
    simp only [if_true, within_eq, Option.bind_some, Bool.true_and]
    refine Ev.val (Ev.now _) ?_
    congr 1
    simp
    omega
theorem specOwn_eq (l : List Z) (hl : l.length ≤ 1048576) : spec_l2Own.f l = some l := by
  unfold spec_l2Own.f
  simp only [Option.bind_some]
  rw [if_pos (by simp; omega)]
  rfl
theorem implOwn_eq (l : List Z) (hl : l.length ≤ 1048576) : impl_Device_own.f l = some l := by
  unfold impl_Device_own.f impl_Zone_105.f
  rw [if_pos (by omega)]
  rfl
theorem thereB_bd {l : List Z} {a : Int} (h : thereB l a = true) : 0 ≤ a ∧ a < (l.length : Int) := by
  unfold thereB at h
  simp at h
  exact h.2
theorem szDevice_ev (l : List (S120)) (hm : l.length ≤ maxLen) (hw : ∀ x ∈ l, wf120 x) : ∃ r, Ev (fun k => laws_szDevice.f k l 1048576) r ∧ (0 ≤ r → l.length ≤ 1048576) := by
  obtain ⟨r, h, h2⟩ := szZoneS_ev l hm hw
  unfold laws_szDevice.f
  by_cases c : r < 0
  · exact ⟨-1, Ev.bind h (by simp only [if_pos c]; exact Ev.now _), fun h => by omega⟩
  · exact ⟨r, Ev.bind h (by simp only [if_neg c]; exact Ev.now _), fun h => (h2 h).1⟩
theorem toDevice_ev (l : List (S120)) (hb : l.length ≤ 1048576) : Ev (fun k => laws_toDevice.f k l) (l.map cvZone) := Ev.bind (toZoneS_ev l hb) (Ev.now _)
theorem eqDevice_self (l : List Z) (hb : l.length ≤ 1048576) : Ev (fun k => laws_eqDevice.f k l l) true := by
  refine Ev.bind (eqZoneS_self l (by omega)) ?_
  simpa using Ev.now _
theorem markDevice_ev (l : List Z) (hb : l.length ≤ 1048576) : Ev (fun k => laws_markDevice.f k l 1) (1 + 3 * (l.length : Int), mksZone 1 l.length) := Ev.bind (markZoneS_ev l 1 (by omega) (by omega) (by omega)) (Ev.now _)
theorem heldDevice_ev (n : Nat) (hb : n ≤ 1048576) : Ev (fun k => laws_heldDevice.f k (mksZone 1 n) 1) (1 + 3 * (n : Int)) := by
  refine Ev.bind (heldZoneS_ev n 1 (by omega) (by omega) (by omega)) ?_
  simp only [if_neg (show ¬ 1 + 3 * (n : Int) < 0 by omega)]
  exact Ev.now _

end Go.Proofs.Ytncckighbgbboaa.Pure

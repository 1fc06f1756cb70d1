/- Plain lemmas on what the printed functions answer: numbers and lists alone. -/
import Derived.Test.YtlfgkodipeofiaaPFx0
import Derived.Test.YtlfgkodipeofiaaPFx2
import Derived.Test.YtlfgkodipeofiaaPFx3
import Derived.Test.YtlfgkodipeofiaaPFx4
import Derived.Test.YtlfgkodipeofiaaPFx5
import Derived.Test.YtlfgkodipeofiaaPartS
import Derived.Test.YtlfgkodipeofiaaBytesNil
import Derived.Lib.Strings
namespace Go.Proofs.Ytlfgkodipeofiaa.Pure
open Go.RowKit Go.Proofs.Ytlfgkodipeofiaa.PF Go.Proofs.YtlfgkodipeofiaaW.PrintWords Go.Proofs.YtlfgkodipeofiaaW.PrintLast
set_option linter.unusedVariables false
set_option linter.unusedSimpArgs false

/-- whether a part is one of a delta of an old text of so many bytes -/
def partB (n : Nat) (x : S59) : Bool :=
  if x.f2.toList = ([] : List UInt8) then decide (0 ≤ x.f0) && (decide (1 ≤ x.f1) && decide (x.f0 + x.f1 ≤ (n : Int))) else decide (x.f0 = 0) && (decide (x.f1 = 0) && decide ((x.f2.size : Int) ≤ 120))
def wfP (x : S59) : Prop := (-9223372036854775808 ≤ x.f0 ∧ x.f0 ≤ 9223372036854775807) ∧ (-9223372036854775808 ≤ x.f1 ∧ x.f1 ≤ 9223372036854775807)
theorem spec_part_eq (s : ByteArray) (hs : s.size ≤ 1048576) (x : S59) (hx : wfP x) : spec_l11Part.f s x.f0 x.f1 x.f2 = some (partB s.size x) := by
  obtain ⟨⟨a1, a2⟩, b1, b2⟩ := hx
  unfold spec_l11Part.f partB spec_l1In.f spec_l11Long.f
  by_cases c : x.f2.toList = ([] : List UInt8)
  · rw [if_pos c, if_pos c]
    by_cases c1 : 0 ≤ x.f0
    · have c1' : x.f0 ≥ 0 := c1
      by_cases c2 : x.f0 ≤ (s.size : Int)
      · have e : wrap64 ((s.size : Int) - x.f0) = (s.size : Int) - x.f0 := w64 (by omega) (by omega)
        rw [e]
        by_cases c3 : 1 ≤ x.f1
        · have c3' : x.f1 ≥ 1 := c3
          have e2 : (x.f1 ≤ (s.size : Int) - x.f0) ↔ (x.f0 + x.f1 ≤ (s.size : Int)) := by omega
          simp [c1, c1', c2, c3, c3', e2]
        · have c3' : ¬ x.f1 ≥ 1 := c3
          simp [c1, c1', c2, c3, c3']
      · by_cases c3 : 1 ≤ x.f1
        · have : ¬ x.f0 + x.f1 ≤ (s.size : Int) := by omega
          simp [c1, c1', c2, this]
        · simp [c1, c1', c2, c3]
    · have c1' : ¬ x.f0 ≥ 0 := c1
      simp [c1, c1']
  · rw [if_neg c, if_neg c]
    by_cases c1 : x.f0 = 0 <;> by_cases c2 : x.f1 = 0 <;> simp [c1, c2]
theorem impl_part_eq (s : ByteArray) (hs : s.size ≤ 1048576) (x : S59) (hx : wfP x) : impl_isPart.f s x.f0 x.f1 x.f2 = some (partB s.size x) := by
  obtain ⟨⟨a1, a2⟩, b1, b2⟩ := hx
  unfold impl_isPart.f partB impl_within.f impl_isShort.f
  by_cases c : x.f2.toList = ([] : List UInt8)
  · rw [if_pos c, if_pos c]
    by_cases c3 : 1 ≤ x.f1
    · have c3' : x.f1 ≥ 1 := c3
      have e : wrap64 ((s.size : Int) - x.f1) = (s.size : Int) - x.f1 := w64 (by omega) (by omega)
      rw [e]
      by_cases c1 : 0 ≤ x.f0
      · have e2 : (x.f0 ≤ (s.size : Int) - x.f1) ↔ (x.f0 + x.f1 ≤ (s.size : Int)) := by omega
        simp [c1, c3, c3', e2]
      · simp [c1, c3, c3']
    · have c3' : ¬ x.f1 ≥ 1 := c3
      simp [c3, c3']
  · rw [if_neg c, if_neg c]
    by_cases c1 : x.f0 = 0 <;> by_cases c2 : x.f1 = 0 <;> simp [c1, c2]
/-- what a part makes of an old text, and parts -/
def partT (s : ByteArray) (x : S59) : ByteArray := if x.f2.toList = ([] : List UInt8) then s.extract x.f0.toNat (x.f0 + x.f1).toNat else x.f2
def applyV (s p : ByteArray) : List (S59) → ByteArray
  | [] => p
  | x :: l => applyV s (p ++ partT s x) l
def costV : List (S59) → Int
  | [] => 0
  | x :: l => (x.f1 + (x.f2.size : Int)) + costV l
theorem partT_size (s : ByteArray) (x : S59) (h : partB s.size x = true) : ((partT s x).size : Int) = x.f1 + (x.f2.size : Int) ∧ 0 ≤ x.f1 := by
  unfold partB at h
  unfold partT
  by_cases c : x.f2.toList = ([] : List UInt8)
  · rw [if_pos c] at h ⊢
    have h0 := bytes_nil _ c
    simp only [Bool.and_eq_true, decide_eq_true_eq] at h
    rw [ByteArray.size_extract]
    omega
  · rw [if_neg c] at h ⊢
    simp only [Bool.and_eq_true, decide_eq_true_eq] at h
    omega
theorem applyV_size (s : ByteArray) : ∀ (l : List (S59)) (p : ByteArray), l.all (partB s.size) = true → ((applyV s p l).size : Int) = (p.size : Int) + costV l
  | [], p, _ => by simp [applyV, costV]
  | x :: l, p, h => by
    simp only [List.all_cons, Bool.and_eq_true] at h
    have h1 := partT_size s x h.1
    have h2 := applyV_size s l (p ++ partT s x) h.2
    simp only [applyV, costV]
    rw [h2, ByteArray.size_append]
    omega
theorem costV_bd (s : ByteArray) (hs : s.size ≤ 1048576) : ∀ (l : List (S59)), l.all (partB s.size) = true → 0 ≤ costV l ∧ costV l ≤ 1048576 * (l.length : Int)
  | [], _ => by simp [costV]
  | x :: l, h => by
    simp only [List.all_cons, Bool.and_eq_true] at h
    have h1 := partT_size s x h.1
    have h2 := costV_bd s hs l h.2
    have h3 : x.f1 + (x.f2.size : Int) ≤ 1048576 := by
      have h := h.1
      unfold partB at h
      by_cases c : x.f2.toList = ([] : List UInt8)
      · rw [if_pos c] at h
        have h0 := bytes_nil _ c
        simp only [Bool.and_eq_true, decide_eq_true_eq] at h
        omega
      · rw [if_neg c] at h
        simp only [Bool.and_eq_true, decide_eq_true_eq] at h
        omega
    simp only [costV, List.length_cons]
    omega
theorem partT_impl (s : ByteArray) (hs : s.size ≤ 1048576) (x : S59) (h : partB s.size x = true) : impl_Part_text.f x.f0 x.f1 x.f2 s = some (partT s x) := by
  unfold partB at h
  unfold impl_Part_text.f partT
  by_cases c : x.f2.toList = ([] : List UInt8)
  · rw [if_pos c] at h ⊢
    simp only [Bool.and_eq_true, decide_eq_true_eq] at h
    rw [w64 (x := x.f0 + x.f1) (by omega) (by omega), if_pos h.1, if_pos (by omega), if_pos (by omega), if_pos c]
  · rw [if_neg c, if_neg c]
theorem impl_apply_l0 (s : ByteArray) (hs : s.size ≤ 1048576) (l : List (S59)) (hl : l.length ≤ 1048576) (hg : l.all (partB s.size) = true) : ∀ (d i : Nat) (p : ByteArray), i + d = l.length → (p.size : Int) ≤ 1048576 * i →
    Ev (fun k => impl_apply.l0 k s p l (l.length : Int) (i : Int)) (applyV s p (l.drop i))
  | 0, i, p, h, _ => Ev.stepc (fun k => by
      simp only [impl_apply.l0]
      rw [if_neg (by omega), List.drop_eq_nil_of_le (by omega)]
      rfl)
  | d + 1, i, p, h, hp => by
    have hx := List.all_eq_true.1 hg _ (mem_rd59 l i (by omega))
    have h1 := partT_size s _ hx
    have h2 := costV_bd s hs [rd_T59 l (i : Int)] (by simp [hx])
    simp only [costV, List.length_cons, List.length_nil] at h2
    have ih := impl_apply_l0 s hs l hl hg d (i + 1) (p ++ partT s (rd_T59 l (i : Int))) (by omega) (by rw [ByteArray.size_append]; omega)
    rw [drop_rd59 l i (by omega)]
    refine Ev.step (fun k => ?_) ih
    simp only [impl_apply.l0]
    rw [if_pos (by omega), if_pos (by omega), if_pos (by omega), partT_impl s hs _ hx, Option.bind_some, if_pos (by omega), wnat (by omega)]
theorem impl_apply_ev (s : ByteArray) (hs : s.size ≤ 1048576) (l : List (S59)) (hl : l.length ≤ 1048576) (hg : l.all (partB s.size) = true) : Ev (fun k => impl_apply.f k s l) (applyV s ⟨#[]⟩ l) := by
  have := impl_apply_l0 s hs l hl hg l.length 0 ⟨#[]⟩ (by omega) (by simp [ByteArray.size])
  unfold impl_apply.f
  exact this
theorem spec_apply_l0 (s : ByteArray) (hs : s.size ≤ 1048576) (l : List (S59)) (hl : l.length ≤ 1048576) (hg : l.all (partB s.size) = true) : ∀ (d i : Nat) (p : ByteArray), i + d = l.length → (p.size : Int) ≤ 1048576 * i →
    Ev (fun k => spec_l11Apply.l0 k s p l (l.length : Int) (i : Int)) (applyV s p (l.drop i))
  | 0, i, p, h, _ => Ev.stepc (fun k => by
      simp only [spec_l11Apply.l0]
      rw [if_neg (by omega), List.drop_eq_nil_of_le (by omega)]
      rfl)
  | d + 1, i, p, h, hp => by
    have hx := List.all_eq_true.1 hg _ (mem_rd59 l i (by omega))
    have h1 := partT_size s _ hx
    have h2 := costV_bd s hs [rd_T59 l (i : Int)] (by simp [hx])
    simp only [costV, List.length_cons, List.length_nil] at h2
    have ih := spec_apply_l0 s hs l hl hg d (i + 1) (p ++ partT s (rd_T59 l (i : Int))) (by omega) (by rw [ByteArray.size_append]; omega)
    rw [drop_rd59 l i (by omega)]
    refine Ev.step (fun k => ?_) ih
    simp only [spec_l11Apply.l0]
    rw [if_pos (by omega), if_pos (by omega), if_pos (by omega)]
    unfold partB at hx
    unfold partT at h1 ⊢
    by_cases c : (rd_T59 l (i : Int)).f2.toList = ([] : List UInt8)
    · rw [if_pos c] at hx h1
      simp only [Bool.and_eq_true, decide_eq_true_eq] at hx
      rw [if_pos c, w64 (x := (rd_T59 l (i : Int)).f0 + (rd_T59 l (i : Int)).f1) (by omega) (by omega), if_pos hx.1, if_pos (by omega), if_pos (by omega), if_pos (by omega), wnat (by omega), if_pos c]
    · rw [if_neg c] at h1
      rw [if_neg c, if_pos (by omega), wnat (by omega), if_neg c]
theorem spec_apply_ev (s : ByteArray) (hs : s.size ≤ 1048576) (l : List (S59)) (hl : l.length ≤ 1048576) (hg : l.all (partB s.size) = true) : Ev (fun k => spec_l11Apply.f k s l) (applyV s ⟨#[]⟩ l) := by
  have := spec_apply_l0 s hs l hl hg l.length 0 ⟨#[]⟩ (by omega) (by simp [ByteArray.size])
  unfold spec_l11Apply.f
  exact this
def deltaB (n : Nat) (l : List (S59)) : Bool := decide ((n : Int) ≤ 120) && (decide ((l.length : Int) ≤ 60) && (l.all (partB n) && decide (costV l ≤ 120)))
theorem spec_good_l0 (s : ByteArray) (hs : s.size ≤ 1048576) (l : List (S59)) (hl : l.length ≤ 1048576) (hw : ∀ x ∈ l, wfP x) : ∀ (d i : Nat) (n : Int), i + d = l.length → 0 ≤ n → n ≤ 1048576 * i →
    Ev (fun k => spec_GoodDelta.l0 k s l n l (l.length : Int) (i : Int)) ((l.drop i).all (partB s.size) && (decide ((s.size : Int) ≤ 120) && (decide ((l.length : Int) ≤ 60) && decide (n + costV (l.drop i) ≤ 120))))
  | 0, i, n, h, _, _ => Ev.stepc (fun k => by
      simp only [spec_GoodDelta.l0, spec_l11Long.f, Option.bind_some]
      rw [if_neg (by omega), List.drop_eq_nil_of_le (by omega)]
      by_cases c1 : (s.size : Int) ≤ 120 <;> by_cases c2 : (l.length : Int) ≤ 60 <;> simp [c1, c2, costV])
  | d + 1, i, n, h, hn, hn2 => by
    have hm := mem_rd59 l i (by omega)
    rw [drop_rd59 l i (by omega), List.all_cons]
    cases c : partB s.size (rd_T59 l (i : Int)) with
    | false =>
      refine Ev.stepc (fun k => ?_)
      simp only [spec_GoodDelta.l0]
      rw [if_pos (by omega), if_pos (by omega), if_pos (by omega), spec_part_eq s hs _ (hw _ hm), c]
      simp
    | true =>
      have h1 := partT_size s _ c
      have h2 := costV_bd s hs [rd_T59 l (i : Int)] (by simp [c])
      simp only [costV, List.length_cons, List.length_nil] at h2
      have ih := spec_good_l0 s hs l hl hw d (i + 1) (n + ((rd_T59 l (i : Int)).f1 + ((rd_T59 l (i : Int)).f2.size : Int))) (by omega) (by omega) (by omega)
      refine Ev.step (f := fun k => spec_GoodDelta.l0 k s l (n + ((rd_T59 l (i : Int)).f1 + ((rd_T59 l (i : Int)).f2.size : Int))) l (l.length : Int) ((i + 1 : Nat) : Int)) (fun k => ?_) ?_
      · simp only [spec_GoodDelta.l0]
        rw [if_pos (by omega), if_pos (by omega), if_pos (by omega), spec_part_eq s hs _ (hw _ hm), c, Option.bind_some, if_pos rfl, wnat (by omega), w64 (x := (rd_T59 l (i : Int)).f1 + ((rd_T59 l (i : Int)).f2.size : Int)) (by omega) (by omega), w64 (by omega) (by omega)]
      · simp only [costV, Bool.true_and]
        rw [Int.add_assoc n] at ih
        exact ih
theorem spec_good_ev (s : ByteArray) (hs : s.size ≤ 1048576) (l : List (S59)) (hl : l.length ≤ 1048576) (hw : ∀ x ∈ l, wfP x) : Ev (fun k => spec_GoodDelta.f k s l) (deltaB s.size l) := by
  have h := spec_good_l0 s hs l hl hw l.length 0 0 (by omega) (by omega) (by omega)
  have e : deltaB s.size l = ((l.drop 0).all (partB s.size) && (decide ((s.size : Int) ≤ 120) && (decide ((l.length : Int) ≤ 60) && decide (0 + costV (l.drop 0) ≤ 120)))) := by
    unfold deltaB
    rw [List.drop_zero, Int.zero_add]
    cases l.all (partB s.size) <;> cases decide ((s.size : Int) ≤ 120) <;> cases decide ((l.length : Int) ≤ 60) <;> simp
  rw [e]
  exact h
theorem allO_part (s : ByteArray) (hs : s.size ≤ 1048576) : ∀ (l : List (S59)), (∀ x ∈ l, wfP x) → allO (fun x : S59 => impl_isPart.f s x.f0 x.f1 x.f2) l = some (l.all (partB s.size))
  | [], _ => rfl
  | x :: l, h => by
    simp only [allO, impl_part_eq s hs x (h x (by simp)), Option.bind_some, List.all_cons]
    cases partB s.size x with
    | true => simpa using allO_part s hs l (fun y hy => h y (by simp [hy]))
    | false => rfl
theorem impl_good_ev (s : ByteArray) (hs : s.size ≤ 1048576) (l : List (S59)) (hl : l.length ≤ 1048576) (hw : ∀ x ∈ l, wfP x) : Ev (fun k => impl_GoodDelta.f k s l) (deltaB s.size l) := by
  unfold impl_GoodDelta.f impl_isShort.f deltaB
  by_cases c1 : (s.size : Int) ≤ 120
  · simp only [decide_eq_true c1, Option.bind_some, if_true, Bool.true_and]
    by_cases c2 : (l.length : Int) ≤ 60
    · have c2' : ¬ (l.length : Int) > 60 := by omega
      simp only [if_neg c2', decide_eq_true c2, Bool.true_and, allO_part s hs l hw, Option.bind_some]
      cases c3 : l.all (partB s.size) with
      | true =>
        simp only [if_true, Bool.true_and]
        refine Ev.bind (impl_apply_ev s hs l hl c3) ?_
        have h1 := applyV_size s l ⟨#[]⟩ c3
        rw [show ((⟨#[]⟩ : ByteArray).size : Int) = 0 from rfl, Int.zero_add] at h1
        simp only [h1]
        exact Ev.now _
      | false => simpa using Ev.now false
    · have c2' : (l.length : Int) > 60 := by omega
      simp only [if_pos c2', decide_eq_false c2, Bool.false_and]
      exact Ev.now _
  · simp only [decide_eq_false c1, Option.bind_some]
    simpa using Ev.now false
theorem wfP_cv (l : List (S58)) (hw : ∀ x ∈ l, wf58 x) : ∀ x ∈ l.map cvPart, wfP x := by
  intro x hx
  obtain ⟨y, hy, rfl⟩ := List.mem_map.1 hx
  have := hw y hy
  exact ⟨i64_bd this.1, i64_bd this.2.1⟩

end Go.Proofs.Ytlfgkodipeofiaa.Pure

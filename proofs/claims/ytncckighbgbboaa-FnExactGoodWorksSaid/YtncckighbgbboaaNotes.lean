/- Plain lemmas on what the printed functions answer: numbers and lists alone. -/
import Derived.Test.YtncckighbgbboaaPCx0
import Derived.Test.YtncckighbgbboaaPCx3
import Derived.Test.YtncckighbgbboaaPCx4
import Derived.Test.YtncckighbgbboaaPCx6
import Derived.Test.YtncckighbgbboaaPCx7
import Derived.Test.YtncckighbgbboaaNoteS
import Derived.Test.YtncckighbgbboaaSteps
namespace Go.Proofs.Ytncckighbgbboaa.Pure
open Go.RowKit Go.Proofs.Ytncckighbgbboaa.PC Go.Proofs.YtncckighbgbboaaW.PrintWords Go.Proofs.YtncckighbgbboaaW.PrintLast
set_option linter.unusedVariables false
set_option linter.unusedSimpArgs false

abbrev W := S90
def inB (a b c : Int) : Bool := decide (b ≤ a) && decide (a ≤ c)
theorem in_eq (a b c : Int) : spec_l1In.f a b c = some (inB a b c) := by
  unfold spec_l1In.f inB
  by_cases h : a ≥ b
  · rw [if_pos h, decide_eq_true (show b ≤ a from h)]; simp
  · rw [if_neg h, decide_eq_false (show ¬ b ≤ a from h)]; simp
theorem within_eq (a b c : Int) : impl_within.f a b c = some (inB a b c) := in_eq a b c
theorem andIf (p q : Bool) : (if p = true then some q else some false) = some (p && q) := by cases p <;> rfl
def zeroB (z : W) : Bool := z.f2 == 0 && (z.f3 == 0 && (z.f4 == 0))
def noteB (z : W) : Bool := if z.f0 = 2 then inB z.f1 1 9 && (inB z.f2 0 5 && (inB z.f3 0 1000 && inB z.f4 0 1000)) else inB z.f0 1 4 && (inB z.f1 1 9 && zeroB z)
theorem zero_eq (z : W) : (if z.f2 = 0 then (if z.f3 = 0 then (some (z.f4 == 0)) else (some false)) else (some false)) = some (zeroB z) := by
  unfold zeroB
  by_cases h : z.f2 = 0
  · by_cases h2 : z.f3 = 0
    · simp [h, h2]
    · simp [h, h2]
  · simp [h]
theorem specNote (z : W) : spec_l14Note.f z.f0 z.f1 z.f2 z.f3 z.f4 = some (noteB z) := by
  unfold spec_l14Note.f noteB
  simp only [in_eq, Option.bind_some, andIf, zero_eq]
  by_cases h2 : z.f0 = 2
  · simp only [if_pos h2, andIf]
  · simp only [if_neg h2]
    by_cases h1 : z.f0 = 1
    · have : inB z.f0 1 4 = true := by rw [h1]; rfl
      simp only [if_pos h1, this, Bool.true_and, andIf]
    · by_cases h3 : z.f0 = 3
      · have : inB z.f0 1 4 = true := by rw [h3]; rfl
        simp only [if_neg h1, if_pos h3, this, Bool.true_and, andIf]
      · by_cases h4 : z.f0 = 4
        · have : inB z.f0 1 4 = true := by rw [h4]; rfl
          simp only [if_neg h1, if_neg h3, if_pos h4, this, Bool.true_and, andIf]
        · have : inB z.f0 1 4 = false := by
            unfold inB
            by_cases h5 : 1 ≤ z.f0
            · rw [decide_eq_true h5, decide_eq_false (by omega)]; rfl
            · rw [decide_eq_false h5]; rfl
          simp only [if_neg h1, if_neg h3, if_neg h4, this, Bool.false_and, andIf, Bool.and_false]
theorem implNote (z : W) : impl_isNote.f z.f0 z.f1 z.f2 z.f3 z.f4 = some (noteB z) := by
  unfold impl_isNote.f noteB impl_isWho.f impl_isCell.f impl_isValue.f
  simp only [within_eq, Option.bind_some, andIf]
  by_cases h2 : z.f0 = 2
  · simp only [if_pos h2]
  · simp only [if_neg h2]
    rfl
theorem implNotes : ∀ l : List W, areAllOf_impl_isNote.f l = some (l.all noteB)
  | [] => rfl
  | z :: l => by
    have ih := implNotes l
    unfold areAllOf_impl_isNote.f at ih ⊢
    rw [allO, implNote, Option.bind_some, List.all_cons]
    cases noteB z with
    | true => rw [if_pos rfl, Bool.true_and]; exact ih
    | false => rfl
theorem implValues : ∀ l : List Int, areAllOf_impl_isValue.f l = some (l.all fun x => inB x 0 1000)
  | [] => rfl
  | z :: l => by
    have ih := implValues l
    unfold areAllOf_impl_isValue.f at ih ⊢
    have e : impl_isValue.f z = some (inB z 0 1000) := by unfold impl_isValue.f; rw [within_eq]; rfl
    rw [allO, e, Option.bind_some, List.all_cons]
    cases inB z 0 1000 with
    | true => rw [if_pos rfl, Bool.true_and]; exact ih
    | false => rfl
theorem l1All_l0 (l : List Int) (a b : Int) (hl : l.length ≤ 1048576) : ∀ (d i : Nat), i + d = l.length → Ev (fun k => spec_l1All.l0 k a b l (l.length : Int) (i : Int)) ((l.drop i).all fun x => inB x a b)
  | 0, i, e => by
    refine Ev.stepc (fun k => ?_)
    rw [spec_l1All.l0, if_neg (by omega), List.drop_eq_nil_of_le (by omega)]
    rfl
  | d + 1, i, e => by
    rw [drop_rd l i (by omega), List.all_cons]
    cases hg : inB (rd l (i : Int)) a b with
    | false =>
      refine Ev.stepc (fun k => ?_)
      rw [spec_l1All.l0, if_pos (by omega), if_pos (by omega), if_pos (by omega), in_eq, hg, Option.bind_some]
      rfl
    | true =>
      rw [Bool.true_and]
      refine Ev.step (fun k => ?_) (l1All_l0 l a b hl d (i + 1) (by omega))
      rw [spec_l1All.l0, if_pos (by omega), if_pos (by omega), if_pos (by omega), in_eq, hg, Option.bind_some, if_pos rfl, wnat (by omega)]
def cellsB (l : List Int) : Bool := decide ((l.length : Int) = 6) && l.all fun x => inB x 0 1000
theorem specCells (l : List Int) (hl : l.length ≤ 1048576) : Ev (fun k => spec_l14Cells.f k l) (cellsB l) := by
  unfold spec_l14Cells.f cellsB
  by_cases h : (l.length : Int) = 6
  · simp only [if_pos h, decide_eq_true h, Bool.true_and]
    exact Ev.bind (l1All_l0 l 0 1000 hl l.length 0 (by omega)) (Ev.now _)
  · simp only [if_neg h, decide_eq_false h, Bool.false_and]
    exact Ev.now _
theorem implCells (l : List Int) : impl_areCells.f l = some (cellsB l) := by
  unfold impl_areCells.f cellsB
  by_cases h : (l.length : Int) = 6
  · rw [if_pos h, decide_eq_true h, implValues]; rfl
  · rw [if_neg h, decide_eq_false h]; rfl
def openW (w : Int) : List W → Bool → Bool
  | [], b => b
  | z :: l, b => openW w l (if z.f1 = w then (if z.f0 = 2 then b else z.f0 == 1) else b)
theorem spec_l1 (l : List W) (hl : l.length ≤ 1048576) (hg : l.all noteB = true) (w : Int) (x : List Int) (R : List Int) : ∀ (n i : Nat) (b : Bool), i + n = l.length →
    Ev (fun k => if openW w (l.drop i) b = true then (if x.length < 17592186044416 then (spec_l14Open.l0 k l (x ++ [w]) (wrap64 (w + 1))) else (none)) else (spec_l14Open.l0 k l x (wrap64 (w + 1)))) R → Ev (fun k => spec_l14Open.l1 k l x w b l (l.length : Int) (i : Int)) R
  | 0, i, b, e, h => by
    rw [List.drop_eq_nil_of_le (by omega)] at h
    refine Ev.step (fun k => ?_) h
    rw [spec_l14Open.l1, if_neg (by omega)]
    rfl
  | n + 1, i, b, e, h => by
    have hz := List.all_eq_true.1 hg _ (mem_rd90 l i (by omega))
    rw [drop_rd90 l i (by omega), openW] at h
    have ih := spec_l1 l hl hg w x R n (i + 1) _ (by omega) h
    refine Ev.step (fun k => ?_) ih
    rw [spec_l14Open.l1, if_pos (by omega), if_pos (by omega), if_pos (by omega), wnat (by omega)]
    by_cases h1 : (rd_T90 l (i : Int)).f1 = w
    · rw [if_pos h1, if_pos h1]
      by_cases g2 : (rd_T90 l (i : Int)).f0 = 2
      · rw [if_neg (by omega), if_neg (by omega), if_neg (by omega), if_pos g2]
      · rw [if_neg g2]
        unfold noteB at hz
        rw [if_neg g2, Bool.and_eq_true] at hz
        have hz1 := hz.1
        unfold inB at hz1
        rw [Bool.and_eq_true, decide_eq_true_eq, decide_eq_true_eq] at hz1
        by_cases g1 : (rd_T90 l (i : Int)).f0 = 1
        · rw [if_pos g1, beq_iff_eq.2 g1]
        · rw [if_neg g1, beq_eq_false_iff_ne.2 g1]
          by_cases g3 : (rd_T90 l (i : Int)).f0 = 3
          · rw [if_pos g3]
          · rw [if_neg g3, if_pos (by omega)]
    · rw [if_neg h1, if_neg h1]
theorem impl_l1 (l : List W) (hl : l.length ≤ 1048576) (w : Int) (x : List Int) (R : List Int) : ∀ (n i : Nat) (b : Bool), i + n = l.length →
    Ev (fun k => if openW w (l.drop i) b = true then (if x.length < 17592186044416 then (impl_openBy.l0 k l (x ++ [w]) (wrap64 (w + 1))) else (none)) else (impl_openBy.l0 k l x (wrap64 (w + 1)))) R → Ev (fun k => impl_openBy.l1 k l x w b l (l.length : Int) (i : Int)) R
  | 0, i, b, e, h => by
    rw [List.drop_eq_nil_of_le (by omega)] at h
    refine Ev.step (fun k => ?_) h
    rw [impl_openBy.l1, if_neg (by omega)]
    rfl
  | n + 1, i, b, e, h => by
    rw [drop_rd90 l i (by omega), openW] at h
    have ih := impl_l1 l hl w x R n (i + 1) _ (by omega) h
    refine Ev.step (fun k => ?_) ih
    rw [impl_openBy.l1, if_pos (by omega), if_pos (by omega), if_pos (by omega), wnat (by omega)]
    by_cases h1 : (rd_T90 l (i : Int)).f1 = w
    · rw [if_pos h1, if_pos h1]
      by_cases g2 : (rd_T90 l (i : Int)).f0 = 2
      · rw [if_pos g2, if_pos g2]
      · rw [if_neg g2, if_neg g2]
    · rw [if_neg h1, if_neg h1]
theorem opens_l0 (l : List W) (hl : l.length ≤ 1048576) (hg : l.all noteB = true) : ∀ (d : Nat) (x : List Int), d ≤ 9 → x.length + d ≤ 9 →
    ∃ L : List Int, L.length ≤ 9 ∧ Ev (fun k => spec_l14Open.l0 k l x (10 - (d : Int))) L ∧ Ev (fun k => impl_openBy.l0 k l x (10 - (d : Int))) L
  | 0, x, _, hx => ⟨x, by omega, Ev.stepc (fun k => by rw [spec_l14Open.l0, if_neg (by omega)]), Ev.stepc (fun k => by rw [impl_openBy.l0, if_neg (by omega)])⟩
  | d + 1, x, hd, hx => by
    have hw : wrap64 (10 - ((d + 1 : Nat) : Int) + 1) = 10 - (d : Int) := by rw [w64 (by omega) (by omega)]; omega
    have hx2 : x.length < 17592186044416 := by clear hw; omega
    have hle : 10 - ((d + 1 : Nat) : Int) ≤ 9 := by clear hw; omega
    obtain ⟨L1, a1, s1, i1⟩ := opens_l0 l hl hg d (x ++ [10 - ((d + 1 : Nat) : Int)]) (by clear hw; omega) (by rw [List.length_append]; show x.length + 1 + d ≤ 9; clear hw; omega)
    obtain ⟨L2, a2, s2, i2⟩ := opens_l0 l hl hg d x (by clear hw; omega) (by clear hw; omega)
    cases ho : openW (10 - ((d + 1 : Nat) : Int)) l false with
    | true =>
      refine ⟨L1, a1, Ev.step (fun k => by rw [spec_l14Open.l0, if_pos hle]; rfl) (spec_l1 l hl hg (10 - ((d + 1 : Nat) : Int)) x L1 l.length 0 false (by omega) ?_), Ev.step (fun k => by rw [impl_openBy.l0, if_pos hle]; rfl) (impl_l1 l hl (10 - ((d + 1 : Nat) : Int)) x L1 l.length 0 false (by omega) ?_)⟩
      · rw [List.drop_zero, ho, hw]; simp only [if_true, if_pos hx2]; exact s1
      · rw [List.drop_zero, ho, hw]; simp only [if_true, if_pos hx2]; exact i1
    | false =>
      refine ⟨L2, a2, Ev.step (fun k => by rw [spec_l14Open.l0, if_pos hle]; rfl) (spec_l1 l hl hg (10 - ((d + 1 : Nat) : Int)) x L2 l.length 0 false (by omega) ?_), Ev.step (fun k => by rw [impl_openBy.l0, if_pos hle]; rfl) (impl_l1 l hl (10 - ((d + 1 : Nat) : Int)) x L2 l.length 0 false (by omega) ?_)⟩
      · rw [List.drop_zero, ho, hw]; simp only [Bool.false_eq_true, if_false]; exact s2
      · rw [List.drop_zero, ho, hw]; simp only [Bool.false_eq_true, if_false]; exact i2
theorem same_l0 (a b : List Int) (hl : a.length = b.length) (ha : a.length ≤ 1048576) : ∀ (d i : Nat), i + d = a.length → ∃ v : Bool, Ev (fun k => spec_l1Same.l0 k a b (a.length : Int) (i : Int)) v ∧ Ev (fun k => slices_Equal_int_int.l0 k a b (a.length : Int) (i : Int)) v
  | 0, i, e => ⟨true, Ev.stepc (fun k => by rw [spec_l1Same.l0, if_neg (by omega)]), Ev.stepc (fun k => by rw [slices_Equal_int_int.l0, if_neg (by omega)])⟩
  | d + 1, i, e => by
    by_cases h : rd a (i : Int) = rd b (i : Int)
    · obtain ⟨v, h1, h2⟩ := same_l0 a b hl ha d (i + 1) (by omega)
      refine ⟨v, Ev.step (fun k => ?_) h1, Ev.step (fun k => ?_) h2⟩
      · rw [spec_l1Same.l0, if_pos (by omega), if_pos (by omega), if_pos (by omega), if_pos (by omega), if_pos h, wnat (by omega)]
      · rw [slices_Equal_int_int.l0, if_pos (by omega), if_pos (by omega), if_pos (by omega), if_pos (by omega), if_pos h, wnat (by omega)]
    · refine ⟨false, Ev.stepc (fun k => ?_), Ev.stepc (fun k => ?_)⟩
      · rw [spec_l1Same.l0, if_pos (by omega), if_pos (by omega), if_pos (by omega), if_pos (by omega), if_neg h]
      · rw [slices_Equal_int_int.l0, if_pos (by omega), if_pos (by omega), if_pos (by omega), if_pos (by omega), if_neg h]
theorem same_ev (a b : List Int) (ha : a.length ≤ 1048576) : ∃ v : Bool, Ev (fun k => spec_l1Same.f k a b) v ∧ Ev (fun k => slices_Equal_int_int.f k a b) v := by
  unfold spec_l1Same.f slices_Equal_int_int.f
  by_cases h : (a.length : Int) = (b.length : Int)
  · simp only [if_pos h]
    exact same_l0 a b (by omega) ha a.length 0 (by omega)
  · simp only [if_neg h]
    exact ⟨false, Ev.now _, Ev.now _⟩

end Go.Proofs.Ytncckighbgbboaa.Pure

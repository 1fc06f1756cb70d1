/- Plain lemmas on what the printed functions answer: numbers and lists alone. -/
import Derived.Test.YthhnmdemmogjaaaPGx0
import Derived.Test.YthhnmdemmogjaaaPGx6
import Derived.Test.YthhnmdemmogjaaaPGx7
import Derived.Test.YthhnmdemmogjaaaAtV
namespace Go.Proofs.Ythhnmdemmogjaaa.Pure
open Go.RowKit Go.Proofs.Ythhnmdemmogjaaa.PG Go.Proofs.YthhnmdemmogjaaaW.PrintWords Go.Proofs.YthhnmdemmogjaaaW.PrintLast
set_option linter.unusedVariables false
set_option linter.unusedSimpArgs false

theorem pIn_cons2 (xs : List Int) (ds : List ByteArray) (hl : ds.length = xs.length) (i : Nat) (h : i < xs.length) (out : List ByteArray) :
    pIn out (xs.drop i) (ds.drop i) = pIn (out.set (rd xs (i : Int)).toNat (rdOf ByteArray.empty ds (i : Int))) (xs.drop (i + 1)) (ds.drop (i + 1)) := by
  rw [drop_rd xs i h, drop_rdT ds i (by omega), pIn]
theorem implAt_l1 (x15 : List S51) (x16 x17 a0 : Int) (a1 xs : List Int) (ds : List ByteArray) (hb : xs.length ≤ 1048576) (hl : ds.length = xs.length) (hx : ∀ x ∈ xs, 0 ≤ x ∧ x ≤ 15) {R : List ByteArray} : ∀ (d i : Nat) (out : List ByteArray), i + d = xs.length → out.length = 16 →
    Ev (fun k => impl_Marks_at.l0 k (pIn out (xs.drop i) (ds.drop i)) x15 x16 (wrap64 (x17 + 1))) R → Ev (fun k => impl_Marks_at.l1 k out x15 x16 x17 xs (xs.length : Int) (i : Int) a0 a1 ds) R
  | 0, i, out, h, ho, hr => by
    rw [show xs.drop i = [] from List.drop_eq_nil_of_le (by omega)] at hr
    refine Ev.step (fun k => ?_) hr
    simp only [impl_Marks_at.l1]
    rw [if_neg (by omega)]
    simp [pIn]
  | d + 1, i, out, h, ho, hr => by
    have hm : rd xs (i : Int) ∈ xs := by
      have e : rd xs (i : Int) = xs[i]'(by omega) := by
        rw [rd_nat, List.getD_eq_getElem?_getD, List.getElem?_eq_getElem (by omega)]
        rfl
      rw [e]
      exact List.getElem_mem _
    have hx0 := hx _ hm
    rw [pIn_cons2 xs ds hl i (by omega)] at hr
    refine Ev.step (fun k => ?_) (implAt_l1 x15 x16 x17 a0 a1 xs ds hb hl hx d (i + 1) _ (by omega) (by rw [List.length_set]; exact ho) hr)
    simp only [impl_Marks_at.l1]
    rw [if_pos (by omega), if_pos (by omega), if_pos (by omega), if_pos (by omega), if_pos hx0.1, if_pos (by omega), wnat (by omega)]
theorem implAt_l0 (l : List S51) (hb : l.length ≤ 1048576) (hg : ∀ y ∈ l, goodL y) : ∀ (d i : Nat) (out : List ByteArray), i + d = l.length → out.length = 16 →
    Ev (fun k => impl_Marks_at.l0 k out l (l.length : Int) (i : Int)) (pAll out (l.drop i))
  | 0, i, out, h, ho => Ev.stepc (fun k => by
      simp only [impl_Marks_at.l0]
      rw [if_neg (by omega), show l.drop i = [] from List.drop_eq_nil_of_le (by omega)]
      rfl)
  | d + 1, i, out, h, ho => by
    have hy := hg _ (mem_rdL l i (by omega))
    rw [drop_rdL l i (by omega), pAll]
    have ih := implAt_l0 l hb hg d (i + 1) (pIn out (rd_T51 l (i : Int)).f1 (rd_T51 l (i : Int)).f2) (by omega) (by rw [pIn_len]; exact ho)
    rw [← wnat (by omega)] at ih
    refine Ev.step (fun k => ?_) (implAt_l1 l (l.length : Int) (i : Int) (rd_T51 l (i : Int)).f0 (rd_T51 l (i : Int)).f1 (rd_T51 l (i : Int)).f1 (rd_T51 l (i : Int)).f2 hy.1.1 hy.1.2 hy.2 _ 0 out (Nat.zero_add _) ho (by rw [List.drop_zero, List.drop_zero]; exact ih))
    simp only [impl_Marks_at.l0]
    rw [if_pos (by omega), if_pos (by omega), if_pos (by omega)]
    rfl
theorem emptyBlocks_eq : impl_emptyBlocks.f = some zero16 := by
  have e : bits_Mul.f 1 16 = some (0, 16) := by decide +kernel
  unfold impl_emptyBlocks.f slices_Repeat_string_string.f
  simp only [e, Option.bind_some, if_true]
  rfl
theorem implAt_ev (l : List S51) (hb : l.length ≤ 1048576) (hg : ∀ y ∈ l, goodL y) (j : Nat) (hj : j < l.length) : Ev (fun k => impl_Marks_at.f k l (j : Int)) (atV (l.take (j + 1))) := by
  unfold impl_Marks_at.f
  have e : wrap64 ((j : Int) + 1) = ((j + 1 : Nat) : Int) := wnat (by omega)
  have h1 : (0 : Int) ≤ ((j + 1 : Nat) : Int) := by omega
  have h2 : ((j + 1 : Nat) : Int) ≤ (l.length : Int) := by omega
  rw [e, emptyBlocks_eq]
  simp only [if_pos h1, if_pos h2, Option.bind_some, Int.toNat_natCast]
  have h := implAt_l0 (l.take (j + 1)) (by rw [List.length_take]; omega) (fun y hy => hg y (List.mem_of_mem_take hy)) (l.take (j + 1)).length 0 zero16 (by omega) rfl
  unfold atV
  simpa using h

end Go.Proofs.Ythhnmdemmogjaaa.Pure

/- Plain lemmas on what the printed functions answer: numbers and lists alone. -/
import Derived.Test.YthhnmdemmogjaaaPGx0
import Derived.Test.YthhnmdemmogjaaaPGx5
import Derived.Test.YthhnmdemmogjaaaAtV
namespace Go.Proofs.Ythhnmdemmogjaaa.Pure
open Go.RowKit Go.Proofs.Ythhnmdemmogjaaa.PG Go.Proofs.YthhnmdemmogjaaaW.PrintWords Go.Proofs.YthhnmdemmogjaaaW.PrintLast
set_option linter.unusedVariables false
set_option linter.unusedSimpArgs false

theorem drop_cons2 (xs : List Int) (ds : List ByteArray) (hl : ds.length = xs.length) (i : Nat) (h : i < xs.length) (b : Int) (s : ByteArray) :
    sIn b s (xs.drop i) (ds.drop i) = sIn b (if rd xs (i : Int) = b then rdOf ByteArray.empty ds (i : Int) else s) (xs.drop (i + 1)) (ds.drop (i + 1)) := by
  rw [drop_rd xs i h, drop_rdT ds i (by omega), sIn]
theorem specAt_l1 (b : Int) (x16 : List S51) (x17 x18 a0 : Int) (a1 xs : List Int) (ds : List ByteArray) (hb : xs.length ≤ 1048576) (hl : ds.length = xs.length) {R : ByteArray} : ∀ (d i : Nat) (s : ByteArray), i + d = xs.length →
    Ev (fun k => spec_l7At.l0 k b (sIn b s (xs.drop i) (ds.drop i)) x16 x17 (wrap64 (x18 + 1))) R → Ev (fun k => spec_l7At.l1 k b s x16 x17 x18 xs (xs.length : Int) (i : Int) a0 a1 ds) R
  | 0, i, s, h, hr => by
    rw [show xs.drop i = [] from List.drop_eq_nil_of_le (by omega)] at hr
    refine Ev.step (fun k => ?_) hr
    simp only [spec_l7At.l1]
    rw [if_neg (by omega)]
    simp [sIn]
  | d + 1, i, s, h, hr => by
    rw [drop_cons2 xs ds hl i (by omega)] at hr
    refine Ev.step (fun k => ?_) (specAt_l1 b x16 x17 x18 a0 a1 xs ds hb hl d (i + 1) _ (by omega) hr)
    simp only [spec_l7At.l1]
    rw [if_pos (by omega), if_pos (by omega), if_pos (by omega), wnat (by omega)]
    by_cases c : rd xs (i : Int) = b
    · rw [if_pos c, if_pos (by omega), if_pos c]
    · rw [if_neg c, if_neg c]
theorem specAt_l0 (b : Int) (l : List S51) (hb : l.length ≤ 1048576) (hg : ∀ y ∈ l, goodL y) : ∀ (d i : Nat) (s : ByteArray), i + d = l.length →
    Ev (fun k => spec_l7At.l0 k b s l (l.length : Int) (i : Int)) (sAll b s (l.drop i))
  | 0, i, s, h => Ev.stepc (fun k => by
      simp only [spec_l7At.l0]
      rw [if_neg (by omega), show l.drop i = [] from List.drop_eq_nil_of_le (by omega)]
      rfl)
  | d + 1, i, s, h => by
    have hy := hg _ (mem_rdL l i (by omega))
    rw [drop_rdL l i (by omega), sAll]
    have ih := specAt_l0 b l hb hg d (i + 1) (sIn b s (rd_T51 l (i : Int)).f1 (rd_T51 l (i : Int)).f2) (by omega)
    rw [← wnat (by omega)] at ih
    refine Ev.step (fun k => ?_) (specAt_l1 b l (l.length : Int) (i : Int) (rd_T51 l (i : Int)).f0 (rd_T51 l (i : Int)).f1 (rd_T51 l (i : Int)).f1 (rd_T51 l (i : Int)).f2 hy.1.1 hy.1.2 _ 0 s (Nat.zero_add _) (by rw [List.drop_zero, List.drop_zero]; exact ih))
    simp only [spec_l7At.l0]
    rw [if_pos (by omega), if_pos (by omega), if_pos (by omega)]
    rfl
theorem specAt_ev (b : Int) (l : List S51) (hb : l.length ≤ 1048576) (hg : ∀ y ∈ l, goodL y) (j : Nat) (hj : j < l.length) : Ev (fun k => spec_l7At.f k l (j : Int) b) (sAll b (⟨#[0, 0]⟩ : ByteArray) (l.take (j + 1))) := by
  unfold spec_l7At.f
  have e : wrap64 ((j : Int) + 1) = ((j + 1 : Nat) : Int) := wnat (by omega)
  have h1 : (0 : Int) ≤ ((j + 1 : Nat) : Int) := by omega
  have h2 : ((j + 1 : Nat) : Int) ≤ (l.length : Int) := by omega
  rw [e]
  simp only [if_pos h1, if_pos h2, Option.bind_some, Int.toNat_natCast]
  have h := specAt_l0 b (l.take (j + 1)) (by rw [List.length_take]; omega) (fun y hy => hg y (List.mem_of_mem_take hy)) (l.take (j + 1)).length 0 (⟨#[0, 0]⟩ : ByteArray) (by omega)
  simpa using h

end Go.Proofs.Ythhnmdemmogjaaa.Pure

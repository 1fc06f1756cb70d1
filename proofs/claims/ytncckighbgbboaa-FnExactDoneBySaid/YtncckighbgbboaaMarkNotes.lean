/- Plain lemmas on what the printed functions answer: numbers and lists alone. -/
import Derived.Test.YtncckighbgbboaaPGx0
import Derived.Test.YtncckighbgbboaaPGx4
import Derived.Test.YtncckighbgbboaaNums
namespace Go.Proofs.Ytncckighbgbboaa.Pure
open Go.RowKit Go.Proofs.Ytncckighbgbboaa.PG Go.Proofs.YtncckighbgbboaaW.PrintWords Go.Proofs.YtncckighbgbboaaW.PrintLast
set_option linter.unusedVariables false
set_option linter.unusedSimpArgs false

theorem markNoteS_step (x : List (S90)) (c : Int) (i : Nat) (hi : i < x.length) (hx : x.length ≤ 1048576) (hc : 0 ≤ c) (hc2 : c ≤ 1152921504606846976) :
    ∃ x' : List (S90), x'.length = x.length ∧ ∀ k, laws_markNoteS.l0 (k + 1) x c (i : Int) = laws_markNoteS.l0 k x' (c + 1 + 1 + 1 + 1 + 1) ((i + 1 : Nat) : Int) := by
  have e1 : wrap64 (c + 1) = c + 1 := w64 (by omega) (by omega)
  have e2 : wrap64 (c + 1 + 1) = c + 1 + 1 := w64 (by omega) (by omega)
  have e3 : wrap64 (c + 1 + 1 + 1) = c + 1 + 1 + 1 := w64 (by omega) (by omega)
  have e4 : wrap64 (c + 1 + 1 + 1 + 1) = c + 1 + 1 + 1 + 1 := w64 (by omega) (by omega)
  have e5 : wrap64 (c + 1 + 1 + 1 + 1 + 1) = c + 1 + 1 + 1 + 1 + 1 := w64 (by omega) (by omega)
  have e6 : wrap64 ((i : Int) + 1) = ((i + 1 : Nat) : Int) := wnat (by omega)
  have p1 : (i : Int) < (x.length : Int) := by omega
  have p2 : (0 : Int) ≤ (i : Int) := by omega
  refine ⟨?x, ?l, fun k => ?e⟩
  case e =>
    rw [laws_markNoteS.l0, if_pos p1, if_pos p2]
    simp only [Option.bind_some, e1, e2, e3, e4, e5, e6]
    rfl
  case l => simp only [List.length_set]
theorem markNoteS_l0 : ∀ (d i : Nat) (x : List (S90)) (c : Int), i + d = x.length → x.length ≤ 1048576 → 0 ≤ c → c + d * 5 ≤ 1152921504606846976 →
    ∃ r, Ev (fun k => laws_markNoteS.l0 k x c (i : Int)) r ∧ 0 ≤ r.1
  | 0, i, x, c, h, hx, hc, hd => ⟨(c, x), Ev.stepc (fun k => by
      simp only [laws_markNoteS.l0]
      rw [if_neg (by omega)]), hc⟩
  | d + 1, i, x, c, h, hx, hc, hd => by
    obtain ⟨x', hl, he⟩ := markNoteS_step x c i (by omega) hx hc (by omega)
    obtain ⟨r, hr, h0⟩ := markNoteS_l0 d (i + 1) x' (c + 1 + 1 + 1 + 1 + 1) (by omega) (by omega) (by omega) (by omega)
    exact ⟨r, Ev.step he hr, h0⟩
theorem markNoteS_ev (l : List (S90)) (hl : l.length ≤ 1048576) : ∃ r, Ev (fun k => laws_markNoteS.f k l 1) r ∧ 0 ≤ r.1 := by
  obtain ⟨r, hr, h0⟩ := markNoteS_l0 l.length 0 l 1 (by omega) hl (by omega) (by omega)
  exact ⟨r, hr, h0⟩

end Go.Proofs.Ytncckighbgbboaa.Pure

/- Plain lemmas on what the printed functions answer: numbers and lists alone. -/
import Derived.Test.YtjpeedbabjaidaaPLx2
import Derived.Test.YtjpeedbabjaidaaDraws
namespace Go.Proofs.Ytjpeedbabjaidaa.Pure
open Go.RowKit Go.Proofs.Ytjpeedbabjaidaa.PL Go.Proofs.YtjpeedbabjaidaaW.PrintWords Go.Proofs.YtjpeedbabjaidaaW.PrintLast
set_option linter.unusedVariables false
set_option linter.unusedSimpArgs false

theorem numberOf_l0 (l : List Int) (hl : ∀ x ∈ l, 0 ≤ x ∧ x ≤ 255) (hb : l.length ≤ 1099511627776) : ∀ (d i : Nat) (x : Int), i + d = l.length → 0 ≤ x → x < 1000003 →
    ∃ n, Ev (fun k => laws_numberOf.l0 k x l (l.length : Int) (i : Int)) n ∧ 0 ≤ n ∧ n < 1000003
  | 0, i, x, h, h0, h1 => ⟨x, Ev.stepc (fun k => by
      simp only [laws_numberOf.l0]
      rw [if_neg (by omega)]), h0, h1⟩
  | d + 1, i, x, h, h0, h1 => by
    have hr := hl _ (rd_mem l (i : Int) (by omega) (by omega))
    have e1 : wrap64 (rd l (i : Int)) = rd l (i : Int) := w64 (by omega) (by omega)
    have e2 : wrap64 (31 * x) = 31 * x := w64 (by omega) (by omega)
    have e3 : wrap64 (31 * x + rd l (i : Int)) = 31 * x + rd l (i : Int) := w64 (by omega) (by omega)
    have e4 : Int.tmod (31 * x + rd l (i : Int)) 1000003 = (31 * x + rd l (i : Int)) % 1000003 := Int.tmod_eq_emod_of_nonneg (by omega)
    obtain ⟨n, hn, hn2⟩ := numberOf_l0 l hl hb d (i + 1) ((31 * x + rd l (i : Int)) % 1000003) (by omega) (by omega) (by omega)
    refine ⟨n, Ev.step (fun k => ?_) hn, hn2⟩
    simp only [laws_numberOf.l0]
    rw [if_pos (by omega), if_pos (by omega), if_pos (by omega), wnat (by omega), e1, e2, e3, e4]
theorem numberOf_ev (l : List Int) (hl : ∀ x ∈ l, 0 ≤ x ∧ x ≤ 255) (hb : l.length ≤ 1099511627776) : ∃ n, Ev (fun k => laws_numberOf.f k l) n ∧ 0 ≤ n ∧ n < 1000003 := by
  obtain ⟨n, hn, hn2⟩ := numberOf_l0 l hl hb l.length 0 0 (by omega) (by omega) (by omega)
  exact ⟨n, hn, hn2⟩

end Go.Proofs.Ytjpeedbabjaidaa.Pure

/- Plain lemmas on what the printed functions answer: numbers and lists alone. -/
import Derived.Test.YtjpeedbabjaidaaPLx1
import Derived.Test.YtjpeedbabjaidaaNums
import Derived.Laws.BitsLemmas
namespace Go.Proofs.Ytjpeedbabjaidaa.Pure
open Go.RowKit Go.Proofs.Ytjpeedbabjaidaa.PL Go.Proofs.YtjpeedbabjaidaaW.PrintWords Go.Proofs.YtjpeedbabjaidaaW.PrintLast
set_option linter.unusedVariables false
set_option linter.unusedSimpArgs false

theorem u64w (y : Int) : 0 ≤ IntKind.u64.wrap y ∧ IntKind.u64.wrap y < 18446744073709551616 := by
  simp only [IntKind.wrap, IntKind.bits, IntKind.signed]
  simp
  omega
theorem wr64 (n : Int) (h0 : 0 ≤ n) (h1 : n < 2 ^ 64) : IntKind.u64.wrap n = n := by
  simp only [IntKind.wrap, IntKind.bits, IntKind.signed]
  simp
  omega
theorem low8 (y : Int) : 0 ≤ wrap64 (Go.bits .and .u64 (IntKind.u64.wrap y / 1099511627776) 255) ∧ wrap64 (Go.bits .and .u64 (IntKind.u64.wrap y / 1099511627776) 255) ≤ 255 := by
  have h := u64w y
  generalize IntKind.u64.wrap y = x at *
  have e : Go.bits .and .u64 (x / 1099511627776) 255 = (x / 1099511627776) % 256 := bits_mask .u64 64 (by decide) wr64 8 (by decide) (x / 1099511627776) (by omega) (by omega)
  rw [e, w64 (by omega) (by omega)]
  omega
theorem rd_mem (l : List Int) (i : Int) (h0 : 0 ≤ i) (h1 : i < (l.length : Int)) : rd l i ∈ l := by
  obtain ⟨n, rfl⟩ := Int.eq_ofNat_of_zero_le h0
  have hn : n < l.length := by omega
  have e : rd l (n : Int) = l[n] := by rw [rd_nat, List.getD_eq_getElem?_getD, List.getElem?_eq_getElem hn]; rfl
  rw [e]
  exact List.getElem_mem hn
theorem next_ev (l : List Int) (hl : ∀ x ∈ l, 0 ≤ x ∧ x ≤ 255) (p : Int) (h0 : 0 ≤ p) (h1 : p ≤ 4611686018427387904) (sd : Int) : ∃ b s, spec_l1Cur_next.f l p sd = some (b, p + 1, s) ∧ 0 ≤ b ∧ b ≤ 255 := by
  unfold spec_l1Cur_next.f
  have e : wrap64 (p + 1) = p + 1 := w64 (by omega) (by omega)
  rw [e]
  by_cases c : p < (l.length : Int)
  · have hb := hl _ (rd_mem l p h0 c)
    have ew : wrap64 (rd l p) = rd l p := w64 (by omega) (by omega)
    rw [if_pos c, if_pos h0, ew]
    by_cases c2 : p + 1 ≤ (l.length : Int)
    · rw [if_pos c2]
      exact ⟨_, _, rfl, hb.1, hb.2⟩
    · rw [if_neg c2]
      exact ⟨_, _, rfl, (low8 _).1, (low8 _).2⟩
  · rw [if_neg c]
    by_cases c2 : p + 1 ≤ (l.length : Int)
    · rw [if_pos c2]
      exact ⟨_, _, rfl, by omega, by omega⟩
    · rw [if_neg c2]
      exact ⟨_, _, rfl, (low8 _).1, (low8 _).2⟩
theorem pick_ev (l : List Int) (hl : ∀ x ∈ l, 0 ≤ x ∧ x ≤ 255) (p : Int) (h0 : 0 ≤ p) (h1 : p ≤ 4611686018427387000) (sd n : Int) (hn : 1 ≤ n) : ∃ x q s, spec_l1Cur_pick.f l p sd n = some (x, q, s) ∧ 0 ≤ x ∧ x < n ∧ p ≤ q ∧ q ≤ p + 2 := by
  unfold spec_l1Cur_pick.f
  by_cases c : n ≤ 1
  · rw [if_pos c]
    exact ⟨0, p, sd, rfl, by omega, by omega, by omega, by omega⟩
  · rw [if_neg c]
    obtain ⟨b, s, e, hb⟩ := next_ev l hl p h0 (by omega) sd
    rw [e, Option.bind_some]
    have hn0 : ¬ n = 0 := by omega
    by_cases c2 : n > 200
    · obtain ⟨b2, s2, e2, hb2⟩ := next_ev l hl (p + 1) (by omega) (by omega) s
      rw [if_pos c2, e2, Option.bind_some, if_neg hn0]
      have e3 : wrap64 (wrap64 (b * 256) + b2) = b * 256 + b2 := by rw [w64 (x := b * 256) (by omega) (by omega), w64 (by omega) (by omega)]
      refine ⟨_, p + 1 + 1, s2, rfl, ?_, ?_, by omega, by omega⟩
      · rw [e3]
        exact Int.tmod_nonneg _ (by omega)
      · rw [e3, Int.tmod_eq_emod_of_nonneg (by omega)]
        exact Int.emod_lt_of_pos _ (by omega)
    · rw [if_neg c2, if_neg hn0]
      refine ⟨_, p + 1, s, rfl, ?_, ?_, by omega, by omega⟩
      · exact Int.tmod_nonneg _ (by omega)
      · rw [Int.tmod_eq_emod_of_nonneg (by omega)]
        exact Int.emod_lt_of_pos _ (by omega)
theorem among_ev (l : List Int) (hl : ∀ x ∈ l, 0 ≤ x ∧ x ≤ 255) (p : Int) (h0 : 0 ≤ p) (h1 : p ≤ 4611686018427387000) (sd : Int) (a : List Int) (ha : 1 ≤ a.length) : ∃ x q s, spec_l1Cur_among.f l p sd a = some (x, q, s) ∧ x ∈ a ∧ p ≤ q ∧ q ≤ p + 2 := by
  unfold spec_l1Cur_among.f
  obtain ⟨x, q, s, e, h2, h3, h4⟩ := pick_ev l hl p h0 h1 sd (a.length : Int) (by omega)
  rw [e, Option.bind_some, if_pos h2, if_pos h3]
  exact ⟨_, _, _, rfl, rd_mem a x h2 h3, h4⟩

end Go.Proofs.Ytjpeedbabjaidaa.Pure

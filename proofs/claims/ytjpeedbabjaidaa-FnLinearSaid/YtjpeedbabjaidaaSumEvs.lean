/- Plain lemmas on what the printed functions answer: numbers and lists alone. -/
import Derived.Test.YtjpeedbabjaidaaPLx1
import Derived.Test.YtjpeedbabjaidaaPLx2
import Derived.Test.YtjpeedbabjaidaaPLx3
import Derived.Test.YtjpeedbabjaidaaLinear
import Derived.Test.YtjpeedbabjaidaaDraws
import Derived.Test.YtjpeedbabjaidaaDrawOne
namespace Go.Proofs.Ytjpeedbabjaidaa.Pure
open Go.RowKit Go.Proofs.Ytjpeedbabjaidaa.PL Go.Proofs.YtjpeedbabjaidaaW.PrintWords Go.Proofs.YtjpeedbabjaidaaW.PrintLast
set_option linter.unusedVariables false
set_option linter.unusedSimpArgs false

theorem in65 (a : Int) : impl_within.f a 0 65535 = some (decide (0 ≤ a) && decide (a ≤ 65535)) := by
  unfold impl_within.f
  by_cases c : (0 : Int) ≤ a
  · rw [if_pos c, decide_eq_true c, Bool.true_and]
  · rw [if_neg c, decide_eq_false c, Bool.false_and]
theorem in400 (a : Int) : impl_within.f a 0 400 = some (decide (0 ≤ a) && decide (a ≤ 400)) := by
  unfold impl_within.f
  by_cases c : (0 : Int) ≤ a
  · rw [if_pos c, decide_eq_true c, Bool.true_and]
  · rw [if_neg c, decide_eq_false c, Bool.false_and]
theorem l1In_eq (a b c : Int) : spec_l1In.f a b c = some (decide (b ≤ a) && decide (a ≤ c)) := by
  unfold spec_l1In.f
  by_cases h : a ≥ b
  · rw [if_pos h, decide_eq_true h, Bool.true_and]
  · rw [if_neg h, decide_eq_false h, Bool.false_and]
theorem isSum_eq (a : Int) : impl_isSum.f a = some (decide (0 ≤ a) && decide (a ≤ 65535)) := by
  unfold impl_isSum.f
  rw [in65, Option.bind_some]
theorem sumOn_val (s : Nat) (t : ByteArray) (h : s < 65536) (ht : t.size ≤ 400) : impl_SumOn.f (s : Int) t = some ((toN s t t.size : Int), true) := by
  unfold impl_SumOn.f
  rw [isSum_eq, Option.bind_some, decide_eq_true (by omega), decide_eq_true (by omega), Bool.and_self, if_pos rfl, if_neg (by omega), sumOn_eq s t h (by omega), Option.bind_some]
theorem sumOf_val (t : ByteArray) (ht : t.size ≤ 400) : impl_SumOf.f t = some ((toN 0 t t.size : Int), true) := by
  unfold impl_SumOf.f
  have := sumOn_val 0 t (by omega) ht
  rw [show ((0 : Nat) : Int) = 0 from rfl] at this
  rw [this, Option.bind_some]
theorem sumOn_both (s : Int) (t : ByteArray) (ht : t.size ≤ 1000) : ∃ r, impl_SumOn.f s t = some r ∧ Ev (fun k => spec_SumOn.f k s t) r := by
  unfold impl_SumOn.f spec_SumOn.f
  simp only [isSum_eq, l1In_eq, Option.bind_some]
  by_cases c1 : (0 : Int) ≤ s
  · by_cases c2 : s ≤ 65535
    · simp only [decide_eq_true c1, decide_eq_true c2, Bool.and_self, if_true]
      by_cases c3 : (t.size : Int) > 400
      · simp only [if_pos c3]
        exact ⟨_, rfl, Ev.now _⟩
      · simp only [if_neg c3]
        obtain ⟨n, rfl⟩ := Int.eq_ofNat_of_zero_le c1
        rw [sumOn_eq n t (by omega) (by omega)]
        exact ⟨_, rfl, Ev.bind (l1On_ev n t (by omega) (by omega)) (Ev.now _)⟩
    · simp only [decide_eq_false c2, Bool.and_false, Bool.false_eq_true, if_false]
      exact ⟨_, rfl, Ev.now _⟩
  · simp only [decide_eq_false c1, Bool.false_and, Bool.false_eq_true, if_false]
    exact ⟨_, rfl, Ev.now _⟩
theorem sumOf_both (t : ByteArray) (ht : t.size ≤ 1000) : ∃ r, impl_SumOf.f t = some r ∧ Ev (fun k => spec_SumOf.f k t) r := by
  obtain ⟨r, h1, h2⟩ := sumOn_both 0 t ht
  unfold impl_SumOf.f spec_SumOf.f
  rw [h1]
  exact ⟨_, rfl, Ev.bind h2 (Ev.now _)⟩
theorem text_l0 (l : List Int) (hl : ∀ x ∈ l, 0 ≤ x ∧ x ≤ 255) (m : Nat) : ∀ (d i : Nat) (x : List Int) (p sd : Int), i + d = m → x.length = m → m ≤ 1000 → 0 ≤ p → p + 2 * d ≤ 4611686018427380000 →
    ∃ r, Ev (fun k => spec_l1Cur_text.l0 k x (m : Int) (i : Int) l p sd) r ∧ r.1.size = m ∧ p ≤ r.2.1 ∧ r.2.1 ≤ p + 2 * d
  | 0, i, x, p, sd, hi, hx, hm, h0, h1 => by
    refine ⟨(strOfNums x, p, sd), Ev.stepc (fun k => ?_), by show (strOfNums x).size = m; rw [strOfNums_size]; exact hx, by show p ≤ p; omega, by show p ≤ _; omega⟩
    rw [spec_l1Cur_text.l0, if_neg (by omega)]
  | d + 1, i, x, p, sd, hi, hx, hm, h0, h1 => by
    obtain ⟨y, q, s, e, _, _, hq0, hq1⟩ := pick_ev l hl p h0 (by omega) sd 256 (by omega)
    obtain ⟨r, hr, h2, h3, h4⟩ := text_l0 l hl m d (i + 1) (x.set (i : Int).toNat (y % 256)) q s (by omega) (by rw [List.length_set]; exact hx) hm (by omega) (by omega)
    refine ⟨r, Ev.step (fun k => ?_) hr, h2, by omega, by omega⟩
    rw [spec_l1Cur_text.l0, if_pos (by omega), e, Option.bind_some, if_pos (by omega), if_pos (by rw [hx]; omega), wnat (by omega)]
theorem text_ev (l : List Int) (hl : ∀ x ∈ l, 0 ≤ x ∧ x ≤ 255) (p sd : Int) (h0 : 0 ≤ p) (h1 : p ≤ 4611686018427370000) : ∃ r, Ev (fun k => spec_l1Cur_text.f k l p sd) r ∧ r.1.size ≤ 401 ∧ p ≤ r.2.1 ∧ r.2.1 ≤ p + 30 := by
  obtain ⟨x, q, s, e, hq0, hq1⟩ := one_ev l hl p h0 (by omega) sd 20 (by omega)
  unfold spec_l1Cur_text.f
  simp only [e, Option.bind_some]
  cases x with
  | true =>
    obtain ⟨y, q2, s2, e2, hy, hq2, hq3⟩ := among_ev l hl q (by omega) (by omega) s [398, 399, 400, 401] (by decide)
    have hy2 : 0 ≤ y ∧ y ≤ 401 := by
      simp only [List.mem_cons, List.not_mem_nil, or_false] at hy
      omega
    have c1 : y.toNat ≤ 281474976710656 := by omega
    simp only [if_true, e2, Option.bind_some, if_pos hy2.1, if_pos c1]
    exact ⟨_, Ev.now _, by show (strOfNums _).size ≤ _; rw [strOfNums_size, List.length_replicate]; omega, by show p ≤ q2; omega, by show q2 ≤ _; omega⟩
  | false =>
    obtain ⟨y, q2, s2, e2, hy0, hy1, hq2, hq3⟩ := pick_ev l hl q (by omega) (by omega) s 10 (by omega)
    have c1 : y.toNat ≤ 281474976710656 := by omega
    simp only [Bool.false_eq_true, if_false, e2, Option.bind_some, if_pos hy0, if_pos c1, List.length_replicate]
    obtain ⟨r, hr, h2, h3, h4⟩ := text_l0 l hl y.toNat y.toNat 0 (List.replicate y.toNat 0) q2 s2 (by omega) (List.length_replicate ..) (by omega) (by omega) (by omega)
    exact ⟨r, hr, by omega, by omega, by omega⟩
theorem drawSumOf_ev (l : List Int) (hl : ∀ x ∈ l, 0 ≤ x ∧ x ≤ 255) : ∃ s, Ev (fun k => spec_DrawSumOf.f k l) s ∧ s.size ≤ 401 := by
  obtain ⟨r, hr, h1, _⟩ := text_ev l hl 0 0 (by omega) (by omega)
  unfold spec_DrawSumOf.f
  exact ⟨r.1, Ev.bind hr (Ev.now _), h1⟩

end Go.Proofs.Ytjpeedbabjaidaa.Pure

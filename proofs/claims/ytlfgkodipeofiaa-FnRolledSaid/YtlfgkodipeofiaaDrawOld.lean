/- Plain lemmas on what the printed functions answer: numbers and lists alone. -/
import Derived.Test.YtlfgkodipeofiaaPRx2
import Derived.Test.YtlfgkodipeofiaaDraws
import Derived.Test.YtlfgkodipeofiaaStringS
namespace Go.Proofs.Ytlfgkodipeofiaa.Pure
open Go.RowKit Go.Proofs.Ytlfgkodipeofiaa.PR Go.Proofs.YtlfgkodipeofiaaW.PrintWords Go.Proofs.YtlfgkodipeofiaaW.PrintLast
set_option linter.unusedVariables false
set_option linter.unusedSimpArgs false

theorem of_ev (l : List Int) (hl : ∀ x ∈ l, 0 ≤ x ∧ x ≤ 255) (p : Int) (h0 : 0 ≤ p) (h1 : p ≤ 4611686018427387000) (sd : Int) (a : List ByteArray) (ha : 1 ≤ a.length) : ∃ x q s, spec_l1Cur_of.f l p sd a = some (x, q, s) ∧ x ∈ a ∧ p ≤ q ∧ q ≤ p + 2 := by
  unfold spec_l1Cur_of.f
  obtain ⟨x, q, s, e, h2, h3, h4⟩ := pick_ev l hl p h0 h1 sd (a.length : Int) (by omega)
  rw [e, Option.bind_some, if_pos h2, if_pos h3]
  refine ⟨_, _, _, rfl, ?_, h4⟩
  obtain ⟨n, rfl⟩ := Int.eq_ofNat_of_zero_le h2
  have hn : n < a.length := by omega
  have e : rdOf ByteArray.empty a (n : Int) = a[n] := by rw [rdT_nat, List.getD_eq_getElem?_getD, List.getElem?_eq_getElem hn]; rfl
  rw [e]
  exact List.getElem_mem hn
theorem one_ev (l : List Int) (hl : ∀ x ∈ l, 0 ≤ x ∧ x ≤ 255) (p : Int) (h0 : 0 ≤ p) (h1 : p ≤ 4611686018427387000) (sd n : Int) (hn : 1 ≤ n) : ∃ x q s, spec_l1Cur_one.f l p sd n = some (x, q, s) ∧ p ≤ q ∧ q ≤ p + 2 := by
  unfold spec_l1Cur_one.f
  obtain ⟨x, q, s, e, h2, h3, h4⟩ := pick_ev l hl p h0 h1 sd n hn
  rw [e, Option.bind_some]
  exact ⟨_, _, _, rfl, h4⟩
theorem old_l0 (l : List Int) (hl : ∀ x ∈ l, 0 ≤ x ∧ x ≤ 255) : ∀ (d : Nat) (t : ByteArray) (p sd : Int), 0 ≤ p → p + d * 2 ≤ 4611686018427380000 → t.size + d * 14 ≤ 1000 →
    ∃ r, Ev (fun k => spec_l1Cur_old.l0 k t (d : Int) l p sd) r ∧ r.1.size ≤ 1000
  | 0, t, p, sd, h0, h1, ht => by
    obtain ⟨x, q, s, e, hq⟩ := one_ev l hl p h0 (by omega) sd 30 (by omega)
    cases x with
    | false =>
      refine ⟨(t, q, s), Ev.stepc (fun k => ?_), by show t.size ≤ 1000; omega⟩
      simp only [spec_l1Cur_old.l0]
      rw [if_neg (by omega), e]
      rfl
    | true =>
      obtain ⟨y, q2, s2, e2, h2, h3, hq2⟩ := pick_ev l hl q (by omega) (by omega) s 2 (by omega)
      have ew : wrap64 (120 + y) = 120 + y := w64 (by omega) (by omega)
      refine ⟨(strOfNums (List.replicate (120 + y).toNat 0), q2, s2), Ev.stepc (fun k => ?_), ?_⟩
      · simp only [spec_l1Cur_old.l0]
        rw [if_neg (by omega), e, Option.bind_some]
        simp only [if_true]
        rw [e2, Option.bind_some, ew, if_pos (by omega), if_pos (by omega)]
      · show (strOfNums _).size ≤ 1000
        rw [strOfNums_size, List.length_replicate]
        omega
  | d + 1, t, p, sd, h0, h1, ht => by
    obtain ⟨x, q, s, e, hx, hq⟩ := of_ev l hl p h0 (by omega) sd [(⟨#[97, 98, 99, 100]⟩ : ByteArray), (⟨#[101, 102, 103, 104]⟩ : ByteArray), (⟨#[97, 98, 99, 100]⟩ : ByteArray), (⟨#[120, 121]⟩ : ByteArray), (⟨#[122]⟩ : ByteArray), (⟨#[97, 32, 108, 111, 110, 103, 101, 114, 32, 119, 111, 114, 100, 32]⟩ : ByteArray)] (by decide)
    have hs : x.size ≤ 14 := by
      simp only [List.mem_cons, List.not_mem_nil, or_false] at hx
      rcases hx with h | h | h | h | h | h <;> (subst h; decide)
    obtain ⟨r, hr, hr2⟩ := old_l0 l hl d (t ++ x) q s (by omega) (by omega) (by rw [ByteArray.size_append]; omega)
    refine ⟨r, Ev.step (fun k => ?_) hr, hr2⟩
    have ew : wrap64 (((d + 1 : Nat) : Int) - 1) = (d : Int) := by rw [w64 (by omega) (by omega)]; omega
    simp only [spec_l1Cur_old.l0]
    rw [if_pos (by omega), e, Option.bind_some]
    simp only []
    rw [if_pos (by omega), ew]
theorem drawRollOf_ev (l : List Int) (hl : ∀ x ∈ l, 0 ≤ x ∧ x ≤ 255) : ∃ s, Ev (fun k => spec_DrawRollOf.f k l) s ∧ s.size ≤ 1000 := by
  unfold spec_DrawRollOf.f spec_l1Cur_old.f
  obtain ⟨y, q, s, e, h2, h3, hq⟩ := pick_ev l hl 0 (by omega) (by omega) 0 8 (by omega)
  obtain ⟨d, rfl⟩ := Int.eq_ofNat_of_zero_le h2
  obtain ⟨r, hr, hr2⟩ := old_l0 l hl d ⟨#[]⟩ q s (by omega) (by omega) (by show 0 + d * 14 ≤ 1000; omega)
  refine ⟨r.1, ?_, hr2⟩
  rw [e]
  exact Ev.bind (g := fun k => (some (Int.ofNat d, q, s)).bind fun bt => spec_l1Cur_old.l0 k ⟨#[]⟩ bt.1 l bt.2.1 bt.2.2) hr (Ev.now _)

end Go.Proofs.Ytlfgkodipeofiaa.Pure

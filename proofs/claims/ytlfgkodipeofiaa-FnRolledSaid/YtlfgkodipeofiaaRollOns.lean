/- Plain lemmas on what the printed functions answer: numbers and lists alone. -/
import Derived.Test.YtlfgkodipeofiaaPRx1
import Derived.Test.YtlfgkodipeofiaaNums
namespace Go.Proofs.Ytlfgkodipeofiaa.Pure
open Go.RowKit Go.Proofs.Ytlfgkodipeofiaa.PR Go.Proofs.YtlfgkodipeofiaaW.PrintWords Go.Proofs.YtlfgkodipeofiaaW.PrintLast
set_option linter.unusedVariables false
set_option linter.unusedSimpArgs false

theorem last_eq (a0 a1 a2 a3 : Int) (h0 : 0 ≤ a0) (h0' : a0 / 256 ≤ 250) (h1 : 0 ≤ a1) (h1' : a1 ≤ 255) (h2 : 0 ≤ a2) (h2' : a2 ≤ 255) (h3 : 1 ≤ a3) (h3' : a3 ≤ 120) :
    wrap64 ((wrap64 (256 * (Int.tmod (wrap64 ((wrap64 ((wrap64 ((wrap64 (a0 / 256)) + 64256)) - (Int.tmod (wrap64 (a3 * (wrap64 (a1)))) 251))) + (Int.tmod (wrap64 ((wrap64 ((wrap64 ((a0 % 256) + 502)) - (wrap64 (a1)))) + (wrap64 (a2)))) 251))) 251))) + (Int.tmod (wrap64 ((wrap64 ((wrap64 ((a0 % 256) + 502)) - (wrap64 (a1)))) + (wrap64 (a2)))) 251))
    = 256 * ((a0 / 256 + (502 * a3 - a3 * a1) + (a0 % 256 + 502 - a1 + a2) % 251) % 251) + (a0 % 256 + 502 - a1 + a2) % 251 ∧
    wrap64 ((wrap64 (256 * (Int.tmod (Int.tmod (wrap64 ((wrap64 ((wrap64 (a0 / 256)) + (wrap64 (a3 * (wrap64 (502 - (wrap64 (a1)))))))) + (Int.tmod (wrap64 ((wrap64 ((wrap64 ((a0 % 256) + 502)) - (wrap64 (a1)))) + (wrap64 (a2)))) 251))) 251) 251))) + (Int.tmod (Int.tmod (wrap64 ((wrap64 ((wrap64 ((a0 % 256) + 502)) - (wrap64 (a1)))) + (wrap64 (a2)))) 251) 251))
    = 256 * ((a0 / 256 + (502 * a3 - a3 * a1) + (a0 % 256 + 502 - a1 + a2) % 251) % 251) + (a0 % 256 + 502 - a1 + a2) % 251 := by
  have p0 : 0 ≤ a3 * a1 := Int.mul_nonneg (by omega) h1
  have p1 : a3 * a1 ≤ 120 * 255 := Int.mul_le_mul h3' h1' h1 (by omega)
  have p3 : a3 * a1 ≤ a3 * 255 := Int.mul_le_mul_of_nonneg_left h1' (by omega)
  have p2 : a3 * (502 - a1) = 502 * a3 - a3 * a1 := by rw [Int.mul_sub]; omega
  rw [w64 (x := a1) (by omega) (by omega), w64 (x := a2) (by omega) (by omega), w64 (x := a0 / 256) (by omega) (by omega), w64 (x := 502 - a1) (by omega) (by omega), p2]
  generalize a3 * a1 = p at *
  rw [w64 (x := a0 % 256 + 502) (by omega) (by omega), w64 (x := a0 % 256 + 502 - a1) (by omega) (by omega), w64 (x := a0 % 256 + 502 - a1 + a2) (by omega) (by omega)]
  rw [w64 (x := p) (by omega) (by omega), w64 (x := 502 * a3 - p) (by omega) (by omega), w64 (x := a0 / 256 + 64256) (by omega) (by omega)]
  rw [Int.tmod_eq_emod_of_nonneg (a := a0 % 256 + 502 - a1 + a2) (by omega), Int.tmod_eq_emod_of_nonneg (a := p) p0]
  have hm : 0 ≤ a0 % 256 := by omega
  have hm' : a0 % 256 ≤ 255 := by omega
  have hq : 0 ≤ a0 / 256 := by omega
  generalize a0 % 256 = m at *
  generalize a0 / 256 = q at *
  rw [w64 (x := q + 64256 - p % 251) (by omega) (by omega), w64 (x := q + 64256 - p % 251 + (m + 502 - a1 + a2) % 251) (by omega) (by omega), w64 (x := q + (502 * a3 - p)) (by omega) (by omega), w64 (x := q + (502 * a3 - p) + (m + 502 - a1 + a2) % 251) (by omega) (by omega)]
  rw [Int.tmod_eq_emod_of_nonneg (a := q + 64256 - p % 251 + (m + 502 - a1 + a2) % 251) (by omega), Int.tmod_eq_emod_of_nonneg (a := q + (502 * a3 - p) + (m + 502 - a1 + a2) % 251) (by omega)]
  rw [Int.tmod_eq_emod_of_nonneg (a := (q + (502 * a3 - p) + (m + 502 - a1 + a2) % 251) % 251) (by omega), Int.tmod_eq_emod_of_nonneg (a := (m + 502 - a1 + a2) % 251) (by omega)]
  have e1 : (q + 64256 - p % 251 + (m + 502 - a1 + a2) % 251) % 251 = (q + (502 * a3 - p) + (m + 502 - a1 + a2) % 251) % 251 := by omega
  have e2 : (m + 502 - a1 + a2) % 251 % 251 = (m + 502 - a1 + a2) % 251 := by omega
  have e3 : (q + (502 * a3 - p) + (m + 502 - a1 + a2) % 251) % 251 % 251 = (q + (502 * a3 - p) + (m + 502 - a1 + a2) % 251) % 251 := by omega
  rw [e1, e2, e3]
  have b1 : 0 ≤ (q + (502 * a3 - p) + (m + 502 - a1 + a2) % 251) % 251 := by omega
  have b2 : (q + (502 * a3 - p) + (m + 502 - a1 + a2) % 251) % 251 ≤ 250 := by omega
  have b3 : 0 ≤ (m + 502 - a1 + a2) % 251 := by omega
  have b4 : (m + 502 - a1 + a2) % 251 ≤ 250 := by omega
  generalize (q + (502 * a3 - p) + (m + 502 - a1 + a2) % 251) % 251 = x at *
  generalize (m + 502 - a1 + a2) % 251 = y at *
  rw [w64 (x := 256 * x) (by omega) (by omega), w64 (by omega) (by omega)]
  exact ⟨rfl, rfl⟩
/-- both roll alike, whatever they are handed -/
theorem rollOn_same (a0 a1 a2 a3 : Int) (b0 : -9223372036854775808 ≤ a0 ∧ a0 ≤ 9223372036854775807) (b1 : 0 ≤ a1 ∧ a1 ≤ 255) (b2 : 0 ≤ a2 ∧ a2 ≤ 255) : ∃ r, impl_RollOn.f a0 a1 a2 a3 = some r ∧ spec_RollOn.f a0 a1 a2 a3 = some r := by
  unfold spec_RollOn.f impl_RollOn.f impl_within.f spec_l1In.f impl_roll.f
  by_cases n0 : a0 < 0
  · refine ⟨(0, false), ?_, if_pos n0⟩
    by_cases c1 : (0 : Int) ≤ Int.tmod a0 256
    · by_cases c2 : (0 : Int) ≤ wrap64 (Int.tdiv a0 256)
      · by_cases c3 : Int.tmod a0 256 ≤ 250 <;> by_cases c4 : wrap64 (Int.tdiv a0 256) ≤ 250 <;> simp [c1, c2, c3, c4, n0]
      · by_cases c3 : Int.tmod a0 256 ≤ 250 <;> simp [c1, c2, c3]
    · simp [c1]
  · have e1 : Int.tmod a0 256 = a0 % 256 := Int.tmod_eq_emod_of_nonneg (by omega)
    have e2 : Int.tdiv a0 256 = a0 / 256 := Int.tdiv_eq_ediv_of_nonneg (by omega)
    rw [e1, e2]
    simp only [if_neg n0]
    have e3 : wrap64 (a0 / 256) = a0 / 256 := w64 (by omega) (by omega)
    by_cases c1 : a0 % 256 > 250
    · have c1' : ¬ a0 % 256 ≤ 250 := by omega
      have c0 : 0 ≤ a0 % 256 := by omega
      simp [c1, c1', c0]
    · have c1' : a0 % 256 ≤ 250 := by omega
      have c0 : 0 ≤ a0 % 256 := by omega
      by_cases c2 : wrap64 (a0 / 256) > 250
      · have c2' : ¬ wrap64 (a0 / 256) ≤ 250 := by omega
        have c3 : 0 ≤ wrap64 (a0 / 256) := by omega
        simp [c1, c1', c0, c2, c2', c3]
      · have c2' : wrap64 (a0 / 256) ≤ 250 := by omega
        have c3 : 0 ≤ wrap64 (a0 / 256) := by rw [e3]; omega
        rw [if_neg c1, if_neg c2, if_pos c0, if_pos c3, decide_eq_true c1', decide_eq_true c2']
        by_cases c4 : a3 ≥ 1
        · by_cases c5 : a3 ≤ 120
          · have k := last_eq a0 a1 a2 a3 (by omega) (by omega) b1.1 b1.2 b2.1 b2.2 (by omega) c5
            rw [k.1, k.2]
            have c4' : 1 ≤ a3 := c4
            simp [c4, c4', c5, n0]
          · have c4' : 1 ≤ a3 := c4
            simp [c4, c4', c5, n0]
        · have c4' : ¬ 1 ≤ a3 := c4
          simp [c4, c4', n0]
theorem rollOn_val (a b a1 a2 a3 : Int) (ha : 0 ≤ a ∧ a ≤ 250) (hb : 0 ≤ b ∧ b ≤ 250) (b1 : 0 ≤ a1 ∧ a1 ≤ 255) (b2 : 0 ≤ a2 ∧ a2 ≤ 255) (b3 : 1 ≤ a3 ∧ a3 ≤ 120) :
    impl_RollOn.f (256 * b + a) a1 a2 a3 = some (256 * ((b + (502 * a3 - a3 * a1) + (a + 502 - a1 + a2) % 251) % 251) + (a + 502 - a1 + a2) % 251, true) := by
  have e1 : Int.tmod (256 * b + a) 256 = a := by rw [Int.tmod_eq_emod_of_nonneg (by omega)]; omega
  have e2 : Int.tdiv (256 * b + a) 256 = b := by rw [Int.tdiv_eq_ediv_of_nonneg (by omega)]; omega
  have n0 : ¬ 256 * b + a < 0 := by omega
  have k := (last_eq (256 * b + a) a1 a2 a3 (by omega) (by omega) b1.1 b1.2 b2.1 b2.2 b3.1 b3.2).2
  rw [show (256 * b + a) / 256 = b by omega, show (256 * b + a) % 256 = a by omega] at k
  unfold impl_RollOn.f impl_within.f impl_roll.f
  have ew : wrap64 b = b := w64 (by omega) (by omega)
  rw [e1, e2, k, ew]
  simp [ha.1, ha.2, hb.1, hb.2, n0, b3.1, b3.2]

end Go.Proofs.Ytlfgkodipeofiaa.Pure

/- The program's RollOn returns what the reference's returns: for all arguments, with no condition. -/
import Derived.Test.YtlfgkodipeofiaaPFnExactRollOnx1
namespace Go.Proofs.Ytlfgkodipeofiaa.Pure
open Go.RowKit Go.Proofs.Ytlfgkodipeofiaa.PFnExactRollOn Go.Proofs.YtlfgkodipeofiaaW.PrintWords Go.Proofs.YtlfgkodipeofiaaW.PrintLast

theorem w64 {x : Int} (h : -9223372036854775808 ≤ x) (h' : x ≤ 9223372036854775807) : wrap64 x = x := by
  unfold wrap64
  omega

theorem last_eq (a0 a1 a2 a3 : Int) (h0 : 0 ≤ a0) (h0' : a0 / 256 ≤ 250) (h1 : 0 ≤ a1) (h1' : a1 ≤ 255) (h2 : 0 ≤ a2) (h2' : a2 ≤ 255) (h3 : 1 ≤ a3) (h3' : a3 ≤ 120) :
    wrap64 ((wrap64 (256 * (Int.tmod (wrap64 ((wrap64 ((wrap64 ((wrap64 (a0 / 256)) + 64256)) - (Int.tmod (wrap64 (a3 * (wrap64 (a1)))) 251))) + (Int.tmod (wrap64 ((wrap64 ((wrap64 ((a0 % 256) + 502)) - (wrap64 (a1)))) + (wrap64 (a2)))) 251))) 251))) + (Int.tmod (wrap64 ((wrap64 ((wrap64 ((a0 % 256) + 502)) - (wrap64 (a1)))) + (wrap64 (a2)))) 251))
    = wrap64 ((wrap64 (256 * (Int.tmod (Int.tmod (wrap64 ((wrap64 ((wrap64 (a0 / 256)) + (wrap64 (a3 * (wrap64 (502 - (wrap64 (a1)))))))) + (Int.tmod (wrap64 ((wrap64 ((wrap64 ((a0 % 256) + 502)) - (wrap64 (a1)))) + (wrap64 (a2)))) 251))) 251) 251))) + (Int.tmod (Int.tmod (wrap64 ((wrap64 ((wrap64 ((a0 % 256) + 502)) - (wrap64 (a1)))) + (wrap64 (a2)))) 251) 251)) := by
  have p0 : 0 ≤ a3 * a1 := Int.mul_nonneg (by omega) h1
  have p1 : a3 * a1 ≤ 120 * 255 := Int.mul_le_mul h3' h1' h1 (by omega)
  have p3 : a3 * a1 ≤ a3 * 255 := Int.mul_le_mul_of_nonneg_left h1' (by omega)
  have p2 : a3 * (502 - a1) = 502 * a3 - a3 * a1 := by rw [Int.mul_sub]; omega
  rw [w64 (x := a1) (by omega) (by omega), w64 (x := a2) (by omega) (by omega), w64 (x := a0 / 256) (by omega) (by omega), w64 (x := 502 - a1) (by omega) (by omega), p2]
  generalize a3 * a1 = p at *
  rw [w64 (x := a0 % 256 + 502) (by omega) (by omega), w64 (x := a0 % 256 + 502 - a1) (by omega) (by omega), w64 (x := a0 % 256 + 502 - a1 + a2) (by omega) (by omega)]
  rw [w64 (x := p) (by omega) (by omega), w64 (x := 502 * a3 - p) (by omega) (by omega), w64 (x := a0 / 256 + 64256) (by omega) (by omega)]
  rw [Int.tmod_eq_emod_of_nonneg (a := a0 % 256 + 502 - a1 + a2) (by omega), Int.tmod_eq_emod_of_nonneg (a := p) p0]
  have hm : 0 ≤ a0 % 256 := by omega
  have hm' : a0 % 256 ≤ 255 := by omega
  have hq : 0 ≤ a0 / 256 := by omega
  generalize a0 % 256 = m at *
  generalize a0 / 256 = q at *
  rw [w64 (x := q + 64256 - p % 251) (by omega) (by omega), w64 (x := q + 64256 - p % 251 + (m + 502 - a1 + a2) % 251) (by omega) (by omega), w64 (x := q + (502 * a3 - p)) (by omega) (by omega), w64 (x := q + (502 * a3 - p) + (m + 502 - a1 + a2) % 251) (by omega) (by omega)]
  rw [Int.tmod_eq_emod_of_nonneg (a := q + 64256 - p % 251 + (m + 502 - a1 + a2) % 251) (by omega), Int.tmod_eq_emod_of_nonneg (a := q + (502 * a3 - p) + (m + 502 - a1 + a2) % 251) (by omega)]
  rw [Int.tmod_eq_emod_of_nonneg (a := (q + (502 * a3 - p) + (m + 502 - a1 + a2) % 251) % 251) (by omega), Int.tmod_eq_emod_of_nonneg (a := (m + 502 - a1 + a2) % 251) (by omega)]
  have e1 : (q + 64256 - p % 251 + (m + 502 - a1 + a2) % 251) % 251 = (q + (502 * a3 - p) + (m + 502 - a1 + a2) % 251) % 251 % 251 := by omega
  have e2 : (m + 502 - a1 + a2) % 251 = (m + 502 - a1 + a2) % 251 % 251 := by omega
  rw [e1, ← e2]

theorem FnExactRollOn : laws_FnExactRollOn.Pure := by
  intro a0 a1 a2 a3 h0 h1 h2 h3
  have b0 : -9223372036854775808 ≤ a0 ∧ a0 ≤ 9223372036854775807 := by simpa [Lit.wf, IntKind.min, IntKind.max, IntKind.signed, IntKind.bits] using h0
  have b1 : 0 ≤ a1 ∧ a1 ≤ 255 := by simpa [Lit.wf, IntKind.min, IntKind.max, IntKind.signed, IntKind.bits] using h1
  have b2 : 0 ≤ a2 ∧ a2 ≤ 255 := by simpa [Lit.wf, IntKind.min, IntKind.max, IntKind.signed, IntKind.bits] using h2
  clear h0 h1 h2 h3
  unfold laws_FnExactRollOn.f spec_RollOn.f impl_RollOn.f impl_within.f spec_l1In.f impl_roll.f
  by_cases n0 : a0 < 0
  · rw [if_pos n0]
    by_cases c1 : (0 : Int) ≤ Int.tmod a0 256
    · by_cases c2 : (0 : Int) ≤ wrap64 (Int.tdiv a0 256)
      · by_cases c3 : Int.tmod a0 256 ≤ 250 <;> by_cases c4 : wrap64 (Int.tdiv a0 256) ≤ 250 <;> simp [c1, c2, c3, c4, n0]
      · by_cases c3 : Int.tmod a0 256 ≤ 250 <;> simp [c1, c2, c3]
    · simp [c1]
  · have e1 : Int.tmod a0 256 = a0 % 256 := Int.tmod_eq_emod_of_nonneg (by omega)
    have e2 : Int.tdiv a0 256 = a0 / 256 := Int.tdiv_eq_ediv_of_nonneg (by omega)
    rw [e1, e2, if_neg n0]
    have e3 : wrap64 (a0 / 256) = a0 / 256 := w64 (by omega) (by omega)
    by_cases c1 : a0 % 256 > 250
    · have c1' : ¬ a0 % 256 ≤ 250 := by omega
      have c0 : 0 ≤ a0 % 256 := by omega
      simp [c1, c1', c0]
    · have c1' : a0 % 256 ≤ 250 := by omega
      have c0 : 0 ≤ a0 % 256 := by omega
      by_cases c2 : wrap64 (a0 / 256) > 250
      · have c2' : ¬ wrap64 (a0 / 256) ≤ 250 := by omega
        have c3 : 0 ≤ wrap64 (a0 / 256) := by omega
        simp [c1, c1', c0, c2, c2', c3]
      · have c2' : wrap64 (a0 / 256) ≤ 250 := by omega
        have c3 : 0 ≤ wrap64 (a0 / 256) := by rw [e3]; omega
        rw [if_neg c1, if_neg c2, if_pos c0, if_pos c3, decide_eq_true c1', decide_eq_true c2']
        by_cases c4 : a3 ≥ 1
        · by_cases c5 : a3 ≤ 120
          · have k := last_eq a0 a1 a2 a3 (by omega) (by omega) b1.1 b1.2 b2.1 b2.2 (by omega) c5
            rw [k]
            simp [c4, c5, n0]
          · simp [c4, c5, n0]
        · simp [c4, n0]

end Go.Proofs.Ytlfgkodipeofiaa.Pure

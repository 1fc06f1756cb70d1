/- Plain lemmas on what the printed functions answer: numbers and lists alone. -/
import Derived.Test.YtjpeedbabjaidaaPLx0
import Derived.Test.YtjpeedbabjaidaaSums
namespace Go.Proofs.Ytjpeedbabjaidaa.Pure
open Go.RowKit Go.Proofs.Ytjpeedbabjaidaa.PL Go.Proofs.YtjpeedbabjaidaaW.PrintWords Go.Proofs.YtjpeedbabjaidaaW.PrintLast
set_option linter.unusedVariables false
set_option linter.unusedSimpArgs false

theorem two_xor (x m b : Nat) (hb : b ≤ 1) : 2 * (x ^^^ m) + b = (2 * x) ^^^ (2 * m + b) := by
  refine Nat.eq_of_testBit_eq fun i => ?_
  rw [Nat.testBit_xor]
  cases i with
  | zero =>
    rw [Nat.testBit_zero, Nat.testBit_zero, Nat.testBit_zero]
    rw [show (2 * (x ^^^ m) + b) % 2 = b by omega, show 2 * x % 2 = 0 by omega, show (2 * m + b) % 2 = b by omega]
    simp
  | succ i =>
    rw [Nat.testBit_succ, Nat.testBit_succ, Nat.testBit_succ]
    rw [show (2 * (x ^^^ m) + b) / 2 = x ^^^ m by omega, show 2 * x / 2 = x by omega, show (2 * m + b) / 2 = m by omega, Nat.testBit_xor]
theorem xor_ge (x y : Nat) (hy : y < 65536) : (x ^^^ y) ≥ 65536 ↔ x ≥ 65536 := by
  constructor
  · intro h
    have h1 : ¬ x < 65536 := fun hx => by
      have := Nat.xor_lt_two_pow (n := 16) (x := x) (y := y) (by omega) (by omega)
      omega
    omega
  · intro h
    have h1 : ¬ x ^^^ y < 65536 := fun hx => by
      have := Nat.xor_lt_two_pow (n := 16) (x := x ^^^ y) (y := y) (by omega) (by omega)
      rw [Nat.xor_assoc, Nat.xor_self, Nat.xor_zero] at this
      omega
    omega
theorem step_xor (x m b : Nat) (hm : 2 * m + b < 65536) (hb : b ≤ 1) : stepN (x ^^^ m) b = stepN x 0 ^^^ (2 * m + b) := by
  unfold stepN
  rw [two_xor x m b hb, Nat.add_zero]
  by_cases c : 2 * x ≥ 65536
  · have c1 := (xor_ge (2 * x) (2 * m + b) hm).2 c
    simp only [if_pos c, if_pos c1]
    rw [Nat.xor_assoc, Nat.xor_assoc, Nat.xor_comm (2 * m + b)]
  · have c1 : ¬ (2 * x ^^^ (2 * m + b)) ≥ 65536 := fun h => c ((xor_ge (2 * x) (2 * m + b) hm).1 h)
    simp only [if_neg c, if_neg c1]
theorem halves (lo e : Nat) : lo / 2 ^ e = 2 * (lo / 2 ^ (e + 1)) + lo / 2 ^ e % 2 := by
  have h : lo / 2 ^ (e + 1) = lo / 2 ^ e / 2 := by rw [Nat.pow_succ, Nat.div_div_eq_div_mul]
  rw [h]
  omega
theorem bits_xor (lo h z : Nat) (hh : h < 256) (hlo : lo < 256) : ∀ d, d ≤ 8 → bitsN lo (z ^^^ h) d = bitsN 0 z d ^^^ (h * 2 ^ d + lo / 2 ^ (8 - d))
  | 0, _ => by
    have : lo / 2 ^ 8 = 0 := by omega
    simp [bitsN, this]
  | d + 1, hd => by
    have h1 := halves lo (7 - d)
    have hb : lo / 2 ^ (7 - d) % 2 ≤ 1 := by omega
    have hp : (2 : Nat) ^ d ≤ 2 ^ 7 := Nat.pow_le_pow_right (by decide) (by omega)
    have hm1 : h * 2 ^ d ≤ 255 * 2 ^ d := Nat.mul_le_mul_right _ (by omega)
    have hq : lo / 2 ^ (7 - d) ≤ lo := Nat.div_le_self _ _
    have e1 : h * 2 ^ (d + 1) = 2 * (h * 2 ^ d) := by rw [Nat.pow_succ, ← Nat.mul_assoc, Nat.mul_comm]
    rw [show 7 - d + 1 = 8 - d by omega] at h1
    rw [bitsN, bits_xor lo h z hh hlo d (by omega), bitsN, Nat.zero_div, Nat.zero_mod, show 8 - (d + 1) = 7 - d by omega, e1]
    generalize lo / 2 ^ (7 - d) = q at h1 hb hq ⊢
    generalize lo / 2 ^ (8 - d) = p at h1 ⊢
    generalize h * 2 ^ d = u at hm1 ⊢
    have hu : u ≤ 255 * 2 ^ 7 := Nat.le_trans hm1 (Nat.mul_le_mul_left _ hp)
    rw [step_xor _ _ _ (by omega) hb]
    congr 1
    omega
theorem sum_zero (z : Nat) : bitsN (bitsN 0 (bitsN 0 z 8) 8 % 256) (bitsN (bitsN 0 (bitsN 0 z 8) 8 / 256) z 8) 8 = 0 ∨ ¬ bitsN 0 (bitsN 0 z 8) 8 < 65536 := by
  by_cases hc : bitsN 0 (bitsN 0 z 8) 8 < 65536
  · left
    generalize hC : bitsN 0 (bitsN 0 z 8) 8 = c at hc ⊢
    have h1 := bits_xor (c / 256) 0 z (by omega) (by omega) 8 (by omega)
    rw [Nat.xor_zero] at h1
    have h2 := bits_xor (c % 256) (c / 256) (bitsN 0 z 8) (by omega) (by omega) 8 (by omega)
    rw [h1, show 0 * 2 ^ 8 + c / 256 / 2 ^ (8 - 8) = c / 256 by simp, h2, hC, show c / 256 * 2 ^ 8 + c % 256 / 2 ^ (8 - 8) = c by simp; omega, Nat.xor_self]
  · exact Or.inr hc

end Go.Proofs.Ytjpeedbabjaidaa.Pure

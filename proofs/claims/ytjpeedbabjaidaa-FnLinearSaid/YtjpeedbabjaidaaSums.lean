/- Plain lemmas on what the printed functions answer: numbers and lists alone. -/
import Derived.Test.YtjpeedbabjaidaaPLx2
import Derived.Test.YtjpeedbabjaidaaPLx3
import Derived.Test.YtjpeedbabjaidaaSteps
import Derived.Laws.BitsAllLaws
namespace Go.Proofs.Ytjpeedbabjaidaa.Pure
open Go.RowKit Go.Proofs.Ytjpeedbabjaidaa.PL Go.Proofs.YtjpeedbabjaidaaW.PrintWords Go.Proofs.YtjpeedbabjaidaaW.PrintLast
set_option linter.unusedVariables false
set_option linter.unusedSimpArgs false

def stepN (s b : Nat) : Nat := if 2 * s + b ≥ 65536 then (2 * s + b) ^^^ 69665 else 2 * s + b
def bitsN (c s : Nat) : Nat → Nat
  | 0 => s
  | d + 1 => stepN (bitsN c s d) (c / 2 ^ (7 - d) % 2)
def toN (s : Nat) (t : ByteArray) : Nat → Nat
  | 0 => s
  | j + 1 => bitsN (bt t j).toNat (toN s t j) 8
theorem xorPoly_lt (x : Nat) (h : 65536 ≤ x) (h2 : x < 131072) : x ^^^ 69665 < 65536 := by
  refine Nat.lt_pow_two_of_testBit (n := 16) _ fun j hj => ?_
  rw [Nat.testBit_xor]
  by_cases e : j = 16
  · subst e
    have h1 : x.testBit 16 = true := by rw [Nat.testBit_eq_decide_div_mod_eq]; exact decide_eq_true (by omega)
    rw [h1]
    decide
  · have hp : 2 ^ 17 ≤ 2 ^ j := Nat.pow_le_pow_right (by decide) (by omega)
    rw [Nat.testBit_lt_two_pow (by omega), Nat.testBit_lt_two_pow (by omega)]
    rfl
theorem stepN_lt (s b : Nat) (h : s < 65536) (hb : b ≤ 1) : stepN s b < 65536 := by
  unfold stepN
  split
  · exact xorPoly_lt _ (by omega) (by omega)
  · omega
theorem bitsN_lt (c s : Nat) (h : s < 65536) : ∀ d, bitsN c s d < 65536
  | 0 => h
  | d + 1 => stepN_lt _ _ (bitsN_lt c s h d) (by omega)
theorem toN_lt (s : Nat) (t : ByteArray) (h : s < 65536) : ∀ j, toN s t j < 65536
  | 0 => h
  | j + 1 => bitsN_lt _ _ (toN_lt s t h j) 8
theorem wraps63 (n : Int) (h0 : 0 ≤ n) (h1 : n < 2 ^ 63) : IntKind.i64.wrap n = n := by
  rw [show (2 : Int) ^ 63 = 9223372036854775808 by decide] at h1
  rw [IntKind.wrap_i64]
  omega
theorem i64_xor_nat (a b : Nat) (ha : a < 9223372036854775808) (hb : b < 9223372036854775808) : Go.bits .xor .i64 (a : Int) (b : Int) = ((a ^^^ b : Nat) : Int) := by
  have hx : a ^^^ b < 2 ^ 63 := Nat.xor_lt_two_pow (by omega) (by omega)
  have h1 : (BitVec.ofInt 64 (a : Int)).toNat = a := by
    rw [BitVec.ofInt_natCast, BitVec.toNat_ofNat]; exact Nat.mod_eq_of_lt (by omega)
  have h2 : (BitVec.ofInt 64 (b : Int)).toNat = b := by
    rw [BitVec.ofInt_natCast, BitVec.toNat_ofNat]; exact Nat.mod_eq_of_lt (by omega)
  show IntKind.i64.wrap ((BitVec.ofInt 64 (a : Int) ^^^ BitVec.ofInt 64 (b : Int)).toNat : Int) = _
  rw [BitVec.toNat_xor, h1, h2, IntKind.wrap_i64]
  omega
theorem bitStep_eq (s b : Nat) (h : s < 65536) (hb : b ≤ 1) : bitStep (s : Int) (b : Int) = (stepN s b : Int) := by
  unfold bitStep stepN
  rw [w64 (x := 2 * (s : Int)) (by omega) (by omega), w64 (x := (b : Int)) (by omega) (by omega), w64 (by omega) (by omega)]
  rw [show 2 * (s : Int) + (b : Int) = ((2 * s + b : Nat) : Int) by omega]
  by_cases c : 2 * s + b ≥ 65536
  · rw [if_pos c, if_pos (by omega)]
    exact i64_xor_nat (2 * s + b) 69665 (by omega) (by decide)
  · rw [if_neg c, if_neg (by omega)]
theorem u8_bit (x : Int) (h0 : 0 ≤ x) (h1 : x < 256) : Go.bits .and .u8 x 1 = ((x.toNat % 2 : Nat) : Int) := by
  rw [u8_and x 1 h0 h1 (by omega) (by omega)]
  rw [show (1 : Int).toNat = 1 by decide, Nat.and_one_is_mod]
theorem i64_bit (x : Int) (h0 : 0 ≤ x) (h1 : x < 256) : Go.bits .and .i64 x 1 = ((x.toNat % 2 : Nat) : Int) := by
  have h := bits_mask .i64 63 (by decide) wraps63 1 (by decide) x h0 (by rw [show (2 : Int) ^ 63 = 9223372036854775808 by decide]; omega)
  rw [show ((2 : Int) ^ 1 - 1) = 1 by decide] at h
  rw [h]
  omega
theorem i64_join (s b : Nat) (h : s < 65536) (hb : b ≤ 1) : Go.bits .or .i64 ((2 * s : Nat) : Int) (b : Int) = ((2 * s + b : Nat) : Int) := by
  have h := bits_join .i64 63 (by decide) wraps63 1 ((2 * s : Nat) : Int) (b : Int) (by omega) (by omega) (by rw [show (2 : Int) ^ 63 = 9223372036854775808 by decide]; omega) (by omega) (by omega) (by rw [show (2 : Int) ^ 63 = 9223372036854775808 by decide]; omega)
  rw [h]
  omega
theorem byteDiv (t : ByteArray) (j : Int) (d : Nat) : bt t j / 2 ^ d = ((((bt t j).toNat / 2 ^ d : Nat)) : Int) ∧ (bt t j).toNat / 2 ^ d < 256 := by
  have h := bt_bd0 t j
  obtain ⟨n, e⟩ := Int.eq_ofNat_of_zero_le h.1
  rw [e]
  refine ⟨by simp, ?_⟩
  have := Nat.div_le_self n (2 ^ d)
  simp only [Int.toNat_natCast]
  omega
theorem sumBits_eq (t : ByteArray) (j : Int) (s : Nat) (h : s < 65536) : ∀ d, sumBits (bt t j) (s : Int) d = (bitsN (bt t j).toNat s d : Int)
  | 0 => rfl
  | d + 1 => by
    have hd := byteDiv t j (7 - d)
    rw [sumBits, sumBits_eq t j s h d, bitsN]
    obtain ⟨q, hq⟩ : ∃ q : Nat, (bt t j).toNat / 2 ^ (7 - d) = q := ⟨_, rfl⟩
    rw [hq] at hd ⊢
    rw [hd.1, u8_bit _ (by omega) (by omega), Int.toNat_natCast, bitStep_eq _ _ (bitsN_lt _ _ h d) (by omega)]
theorem sumTo_eq (s : Nat) (t : ByteArray) (h : s < 65536) : ∀ j, sumTo (s : Int) t j = (toN s t j : Int)
  | 0 => rfl
  | j + 1 => by rw [sumTo, sumTo_eq s t h j, sumBits_eq t j _ (toN_lt s t h j) 8]; rfl
theorem sumOn_eq (s : Nat) (t : ByteArray) (h : s < 65536) (ht : t.size ≤ 1048576) : impl_sumOn.f (s : Int) t = some (toN s t t.size : Int) := by
  unfold impl_sumOn.f
  rw [if_pos ht, sumTo_eq s t h]
theorem u64w7 (d : Nat) (h : d ≤ 7) : IntKind.u64.wrap (7 - (d : Int)) = 7 - (d : Int) := by rw [IntKind.wrap_u64]; omega
theorem w7 (d : Nat) (h : d ≤ 7) : wrap64 (7 - (d : Int) - 1) = 7 - ((d + 1 : Nat) : Int) := by rw [w64 (by omega) (by omega)]; omega
theorem castGt {n : Nat} (h : n ≥ 65536) : (n : Int) > 65535 := by omega
theorem castLe {n : Nat} (h : ¬ n ≥ 65536) : ¬ (n : Int) > 65535 := by omega
theorem orStep (x q : Nat) (hx : x < 65536) (hq : q < 256) : Go.bits .or .i64 (wrap64 ((x : Int) * 2)) (Go.bits .and .i64 (wrap64 (q : Int)) 1) = ((2 * x + q % 2 : Nat) : Int) := by
  rw [w64 (x := (q : Int)) (by omega) (by omega), i64_bit _ (by omega) (by omega), Int.toNat_natCast, w64 (by omega) (by omega), show (x : Int) * 2 = ((2 * x : Nat) : Int) by omega]
  exact i64_join _ _ hx (by omega)
theorem shrStep (t : ByteArray) (j : Int) (d : Nat) (h : d ≤ 7) : shr .u8 (bt t j) (7 - (d : Int)) = (((bt t j).toNat / 2 ^ (7 - d) : Nat) : Int) := by
  unfold shr
  rw [show min (7 - (d : Int)).toNat IntKind.u8.bits = 7 - d by simp [IntKind.bits]; omega]
  exact (byteDiv t j (7 - d)).1
theorem l1On_l1 (t : ByteArray) (j : Nat) (hj : j < t.size) (s : Nat) (h : s < 65536) (r : Int)
    (hr : Ev (fun k => spec_l1On.l0 k (bitsN (bt t j).toNat s 8 : Int) t (wrap64 ((j : Int) + 1))) r) :
    ∀ (n d : Nat), n + d = 8 → Ev (fun k => spec_l1On.l1 k (bitsN (bt t j).toNat s d : Int) t (j : Int) (7 - (d : Int))) r
  | 0, d, e => by
    obtain rfl : d = 8 := by omega
    refine Ev.step (fun k => ?_) hr
    rw [spec_l1On.l1, if_neg (by decide)]
  | n + 1, d, e => by
    have ih := l1On_l1 t j hj s h r hr n (d + 1) (by omega)
    have hb := bitsN_lt (bt t j).toNat s h d
    have hq1 := (byteDiv t j (7 - d)).2
    have f1 : 7 - (d : Int) ≥ 0 := by omega
    have f2 : 0 ≤ (j : Int) := by omega
    have f3 : (j : Int) < (t.size : Int) := by omega
    have f4 : 0 ≤ 7 - (d : Int) := f1
    have hd7 : d ≤ 7 := by omega
    have e1 := shrStep t j d hd7
    rw [bitsN] at ih
    obtain ⟨q, hq⟩ : ∃ q : Nat, (bt t j).toNat / 2 ^ (7 - d) = q := ⟨_, rfl⟩
    obtain ⟨x, hx⟩ : ∃ x : Nat, bitsN (bt t j).toNat s d = x := ⟨_, rfl⟩
    rw [hq] at ih e1 hq1
    rw [hx] at hb ih ⊢
    have e3 := orStep x q hb hq1
    by_cases c : 2 * x + q % 2 ≥ 65536
    · have es : stepN x (q % 2) = (2 * x + q % 2) ^^^ 69665 := by unfold stepN; exact if_pos c
      have hx2 := i64_xor_nat (2 * x + q % 2) 69665 (by clear e1 e3 ih; omega) (by decide)
      rw [es] at ih
      refine Ev.step (fun k => ?_) ih
      rw [spec_l1On.l1, if_pos f1, if_pos f2, if_pos f3, u64w7 d hd7, if_pos f4, e1, e3, w7 d hd7, if_pos (castGt c)]
      exact congrArg (fun x => spec_l1On.l1 k x t (j : Int) (7 - ((d + 1 : Nat) : Int))) hx2
    · have es : stepN x (q % 2) = 2 * x + q % 2 := by unfold stepN; exact if_neg c
      rw [es] at ih
      refine Ev.step (fun k => ?_) ih
      rw [spec_l1On.l1, if_pos f1, if_pos f2, if_pos f3, u64w7 d hd7, if_pos f4, e1, e3, w7 d hd7, if_neg (castLe c)]
theorem l1On_l0 (t : ByteArray) (s : Nat) (h : s < 65536) (ht : t.size ≤ 1048576) : ∀ (n j : Nat), n + j = t.size → Ev (fun k => spec_l1On.l0 k (toN s t j : Int) t (j : Int)) (toN s t t.size : Int)
  | 0, j, e => by
    obtain rfl : j = t.size := by omega
    refine Ev.stepc (fun k => ?_)
    simp only [spec_l1On.l0]
    rw [if_neg (by omega)]
  | n + 1, j, e => by
    have ih := l1On_l0 t s h ht n (j + 1) (by omega)
    rw [← wnat (by omega)] at ih
    have h1 := l1On_l1 t j (by omega) (toN s t j) (toN_lt s t h j) _ ih 8 0 (by omega)
    refine Ev.step (f := fun k => spec_l1On.l1 k (toN s t j : Int) t (j : Int) 7) (fun k => ?_) h1
    rw [spec_l1On.l0, if_pos (by omega)]
theorem l1On_ev (s : Nat) (t : ByteArray) (h : s < 65536) (ht : t.size ≤ 1048576) : Ev (fun k => spec_l1On.f k (s : Int) t) (toN s t t.size : Int) := l1On_l0 t s h ht t.size 0 (by omega)

end Go.Proofs.Ytjpeedbabjaidaa.Pure

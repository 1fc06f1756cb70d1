/- Plain lemmas on what the printed functions answer: numbers and lists alone. -/
import Derived.Test.YtjpeedbabjaidaaPLx0
import Derived.Test.YtjpeedbabjaidaaXors
namespace Go.Proofs.Ytjpeedbabjaidaa.Pure
open Go.RowKit Go.Proofs.Ytjpeedbabjaidaa.PL Go.Proofs.YtjpeedbabjaidaaW.PrintWords Go.Proofs.YtjpeedbabjaidaaW.PrintLast
set_option linter.unusedVariables false
set_option linter.unusedSimpArgs false

theorem step_tb (s b : Nat) (h : s < 65536) (hb : b ≤ 1) : stepN s b = if (2 * s + b).testBit 16 = true then (2 * s + b) ^^^ 69665 else 2 * s + b := by
  unfold stepN
  have e : (2 * s + b).testBit 16 = decide ((2 * s + b) / 2 ^ 16 % 2 = 1) := Nat.testBit_eq_decide_div_mod_eq
  by_cases c : 2 * s + b ≥ 65536
  · rw [if_pos c, if_pos (by rw [e]; exact decide_eq_true (by omega))]
  · rw [if_neg c, if_neg (by rw [e, decide_eq_false (by omega)]; decide)]
theorem two_xor2 (s t b c : Nat) (hb : b ≤ 1) (hc : c ≤ 1) : 2 * (s ^^^ t) + (b ^^^ c) = (2 * s + b) ^^^ (2 * t + c) := by
  rcases (by omega : b = 0 ∨ b = 1) with e | e
  · subst e
    rw [Nat.zero_xor]
    exact two_xor s t c hc
  · subst e
    rcases (by omega : c = 0 ∨ c = 1) with e2 | e2
    · subst e2
      rw [Nat.xor_zero, Nat.xor_comm s t, two_xor t s 1 (by omega), Nat.xor_comm]
      rfl
    · subst e2
      rw [Nat.xor_self]
      have h1 := two_xor s t 0 (by omega)
      have h2 := two_xor s 0 1 (by omega)
      have h3 := two_xor t 0 1 (by omega)
      rw [Nat.xor_zero] at h2 h3
      rw [h1, h2, h3, Nat.xor_assoc, Nat.xor_comm (2 * t), ← Nat.xor_assoc (2 * 0 + 1), Nat.xor_self, Nat.zero_xor]
      rfl
theorem step_xor2 (s t b c : Nat) (hs : s < 65536) (ht : t < 65536) (hb : b ≤ 1) (hc : c ≤ 1) : stepN (s ^^^ t) (b ^^^ c) = stepN s b ^^^ stepN t c := by
  have h1 : s ^^^ t < 2 ^ 16 := Nat.xor_lt_two_pow hs ht
  have h2 : b ^^^ c < 2 ^ 1 := Nat.xor_lt_two_pow (by omega) (by omega)
  rw [step_tb _ _ h1 (by omega), step_tb s b hs hb, step_tb t c ht hc, two_xor2 s t b c hb hc, Nat.testBit_xor]
  generalize 2 * s + b = x
  generalize 2 * t + c = y
  cases x.testBit 16 <;> cases y.testBit 16
  · rfl
  · show (x ^^^ y) ^^^ 69665 = x ^^^ (y ^^^ 69665)
    rw [Nat.xor_assoc]
  · show (x ^^^ y) ^^^ 69665 = (x ^^^ 69665) ^^^ y
    rw [Nat.xor_assoc, Nat.xor_comm y, ← Nat.xor_assoc]
  · show x ^^^ y = (x ^^^ 69665) ^^^ (y ^^^ 69665)
    rw [Nat.xor_assoc x, Nat.xor_comm y, ← Nat.xor_assoc 69665, Nat.xor_self, Nat.zero_xor]
theorem bit_xor (a b k : Nat) : (a ^^^ b) / 2 ^ k % 2 = (a / 2 ^ k % 2) ^^^ (b / 2 ^ k % 2) := by
  rw [← Nat.toNat_testBit, ← Nat.toNat_testBit, ← Nat.toNat_testBit, Nat.testBit_xor]
  cases a.testBit k <;> cases b.testBit k <;> rfl
theorem bits_xor2 (a b s t : Nat) (hs : s < 65536) (ht : t < 65536) : ∀ d, bitsN (a ^^^ b) (s ^^^ t) d = bitsN a s d ^^^ bitsN b t d
  | 0 => rfl
  | d + 1 => by
    rw [bitsN, bitsN, bitsN, bits_xor2 a b s t hs ht d, bit_xor]
    exact step_xor2 _ _ _ _ (bitsN_lt a s hs d) (bitsN_lt b t ht d) (by omega) (by omega)
theorem toN_xor (x a b : ByteArray) (s t : Nat) (hs : s < 65536) (ht : t < 65536) : ∀ j : Nat, (∀ i : Nat, i < j → (bt x (i : Int)).toNat = (bt a (i : Int)).toNat ^^^ (bt b (i : Int)).toNat) → toN (s ^^^ t) x j = toN s a j ^^^ toN t b j
  | 0, _ => rfl
  | j + 1, h => by
    rw [toN, toN, toN, toN_xor x a b s t hs ht j (fun i hi => h i (by omega)), h j (by omega)]
    exact bits_xor2 _ _ _ _ (toN_lt s a hs j) (toN_lt t b ht j) 8
theorem toN_ext (s : Nat) (a b : ByteArray) : ∀ j : Nat, (∀ i : Nat, i < j → bt a (i : Int) = bt b (i : Int)) → toN s a j = toN s b j
  | 0, _ => rfl
  | j + 1, h => by rw [toN, toN, h j (by omega), toN_ext s a b j (fun i hi => h i (by omega))]
theorem bt_head (t : ByteArray) (k i : Nat) (h : i < k) (hk : k ≤ t.size) : bt (t.extract 0 k) (i : Int) = bt t (i : Int) := by
  have h1 : i < (t.extract 0 k).size := by rw [ByteArray.size_extract]; omega
  rw [← bt_at _ _ (show ((i : Int)).toNat < (t.extract 0 k).size from h1), ← bt_at t i (show ((i : Int)).toNat < t.size by rw [Int.toNat_natCast]; omega)]
  have := ByteArray.getElem_extract (b := t) (start := 0) (stop := k) (i := i) h1
  simp only [Nat.zero_add] at this
  exact congrArg (fun x : UInt8 => (x.toNat : Int)) this
theorem bt_rest (t : ByteArray) (k i : Nat) (h : k + i < t.size) : bt (t.extract k t.size) (i : Int) = bt t ((k + i : Nat) : Int) := by
  have h1 : i < (t.extract k t.size).size := by rw [ByteArray.size_extract]; omega
  rw [← bt_at _ _ (show ((i : Int)).toNat < (t.extract k t.size).size from h1), ← bt_at t ((k + i : Nat) : Int) (by rw [Int.toNat_natCast]; exact h)]
  have := ByteArray.getElem_extract (b := t) (start := k) (stop := t.size) (i := i) h1
  exact congrArg (fun x : UInt8 => (x.toNat : Int)) this
theorem toN_head (s : Nat) (t : ByteArray) (k : Nat) (hk : k ≤ t.size) : toN s (t.extract 0 k) k = toN s t k := toN_ext s _ _ k (fun i hi => bt_head t k i hi hk)
theorem toN_from (s : Nat) (t : ByteArray) (k : Nat) : ∀ j : Nat, k + j ≤ t.size → toN (toN s t k) (t.extract k t.size) j = toN s t (k + j)
  | 0, _ => rfl
  | j + 1, h => by
    rw [toN, toN_from s t k j (by omega), bt_rest t k j (by omega)]
    rfl
theorem bt_str (xs : List Int) (i : Nat) (h : i < xs.length) : bt (strOfNums xs) (i : Int) = (((xs.getD i 0).toNat % 256 : Nat) : Int) := by
  have h1 : ((i : Int)).toNat < (strOfNums xs).size := by rw [strOfNums_size]; exact h
  rw [← bt_at _ _ h1]
  have : (strOfNums xs)[i]'h1 = UInt8.ofNat (xs.getD i 0).toNat := by
    simp [strOfNums, ByteArray.getElem_eq_getElem_data, List.getD_eq_getElem?_getD, h]
  show (((strOfNums xs)[i]'h1).toNat : Int) = _
  rw [this, UInt8.toNat_ofNat']
theorem u8_xor_nat (a b : Nat) (ha : a < 256) (hb : b < 256) : Go.bits .xor .u8 (a : Int) (b : Int) = ((a ^^^ b : Nat) : Int) := by
  have hx : a ^^^ b < 2 ^ 8 := Nat.xor_lt_two_pow (by omega) (by omega)
  have h1 : (BitVec.ofInt 8 (a : Int)).toNat = a := by
    rw [BitVec.ofInt_natCast, BitVec.toNat_ofNat]; exact Nat.mod_eq_of_lt (by omega)
  have h2 : (BitVec.ofInt 8 (b : Int)).toNat = b := by
    rw [BitVec.ofInt_natCast, BitVec.toNat_ofNat]; exact Nat.mod_eq_of_lt (by omega)
  show IntKind.u8.wrap ((BitVec.ofInt 8 (a : Int) ^^^ BitVec.ofInt 8 (b : Int)).toNat : Int) = _
  rw [BitVec.toNat_xor, h1, h2]
  simp only [IntKind.wrap, IntKind.signed, IntKind.bits]
  simp
  omega
/-- many bytes 0 -/
def zerosV (n : Nat) : ByteArray := strOfNums (List.replicate n 0)
theorem zeros_size (n : Nat) : (zerosV n).size = n := by unfold zerosV; rw [strOfNums_size, List.length_replicate]
theorem zeros_bt (n i : Nat) (h : i < n) : bt (zerosV n) (i : Int) = 0 := by
  unfold zerosV
  rw [bt_str _ i (by rw [List.length_replicate]; exact h)]
  simp [List.getD_eq_getElem?_getD, h]

end Go.Proofs.Ytjpeedbabjaidaa.Pure

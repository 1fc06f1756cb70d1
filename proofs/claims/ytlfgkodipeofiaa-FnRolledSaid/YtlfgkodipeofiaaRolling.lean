/- Plain lemmas on what the printed functions answer: numbers and lists alone. -/
import Derived.Test.YtlfgkodipeofiaaPRx1
import Derived.Test.YtlfgkodipeofiaaRoll
import Derived.Test.YtlfgkodipeofiaaRollOns
namespace Go.Proofs.Ytlfgkodipeofiaa.Pure
open Go.RowKit Go.Proofs.Ytlfgkodipeofiaa.PR Go.Proofs.YtlfgkodipeofiaaW.PrintWords Go.Proofs.YtlfgkodipeofiaaW.PrintLast
set_option linter.unusedVariables false
set_option linter.unusedSimpArgs false

def SA (f : Nat → Int) : Nat → Int
  | 0 => 0
  | j + 1 => SA f j + f j
def SB (f : Nat → Int) (L : Int) : Nat → Int
  | 0 => 0
  | j + 1 => SB f L j + f j * (L - j)
theorem SA_shift (f : Nat → Int) : ∀ j, SA (fun m => f (m + 1)) j = SA f (j + 1) - f 0
  | 0 => by simp [SA]
  | j + 1 => by
    have ih := SA_shift f j
    simp only [SA] at ih ⊢
    omega
theorem SB_shift (f : Nat → Int) (L : Int) : ∀ j, SB (fun m => f (m + 1)) L j = SB f L (j + 1) - f 0 * L + SA (fun m => f (m + 1)) j
  | 0 => by simp [SA, SB]
  | j + 1 => by
    have ih := SB_shift f L j
    simp only [SA, SB] at ih ⊢
    have e : f (j + 1) * (L - (j : Int)) = f (j + 1) * (L - ((j + 1 : Nat) : Int)) + f (j + 1) := by
      rw [show L - (j : Int) = (L - ((j + 1 : Nat) : Int)) + 1 by omega, Int.mul_add, Int.mul_one]
    rw [e]
    omega
theorem SA_congr (f g : Nat → Int) : ∀ j, (∀ m, m < j → f m = g m) → SA f j = SA g j
  | 0, _ => rfl
  | j + 1, h => by rw [SA, SA, SA_congr f g j (fun m hm => h m (by omega)), h j (by omega)]
theorem SB_congr (f g : Nat → Int) (L : Int) : ∀ j, (∀ m, m < j → f m = g m) → SB f L j = SB g L j
  | 0, _ => rfl
  | j + 1, h => by rw [SB, SB, SB_congr f g L j (fun m hm => h m (by omega)), h j (by omega)]
theorem sA_SA (s : ByteArray) : ∀ j, sA s j = SA (fun m => bt s (m : Int)) j
  | 0 => rfl
  | j + 1 => by rw [sA, SA, sA_SA s j]
theorem sB_SB (s : ByteArray) : ∀ j, sB s j = SB (fun m => bt s (m : Int)) (s.size : Int) j
  | 0 => rfl
  | j + 1 => by rw [sB, SB, sB_SB s j]
theorem bt_cut (s : ByteArray) (i L n : Nat) (hn : n < L) (h : i + L ≤ s.size) : bt (s.extract i (i + L)) (n : Int) = bt s ((i + n : Nat) : Int) := by
  have h1 : n < (s.extract i (i + L)).size := by rw [ByteArray.size_extract]; omega
  rw [← bt_at _ _ (show ((n : Int)).toNat < (s.extract i (i + L)).size from h1), ← bt_at s ((i + n : Nat) : Int) (show (((i + n : Nat) : Int)).toNat < s.size by rw [Int.toNat_natCast]; omega)]
  have := ByteArray.getElem_extract (b := s) (start := i) (stop := i + L) (i := n) h1
  simp only [Int.toNat_natCast]
  rw [this]
theorem cut_sums (s : ByteArray) (i L : Nat) (h : i + L ≤ s.size) : (s.extract i (i + L)).size = L ∧ sA (s.extract i (i + L)) L = SA (fun m => bt s ((i + m : Nat) : Int)) L ∧ sB (s.extract i (i + L)) L = SB (fun m => bt s ((i + m : Nat) : Int)) (L : Int) L := by
  have e : (s.extract i (i + L)).size = L := by rw [ByteArray.size_extract]; omega
  refine ⟨e, ?_, ?_⟩
  · rw [sA_SA]
    exact SA_congr _ _ L (fun m hm => bt_cut s i L m hm h)
  · rw [sB_SB, e]
    exact SB_congr _ _ _ L (fun m hm => bt_cut s i L m hm h)
/-- rolled on by one place, the sum is that of the next place -/
theorem roll_next (s : ByteArray) (i L : Nat) (h : i + 1 + L ≤ s.size) (h1 : 1 ≤ L) (h2 : L ≤ 120) :
    impl_RollOn.f (rollV (s.extract i (i + L))) (bt s (i : Int)) (bt s ((i + L : Nat) : Int)) (L : Int) = some (rollV (s.extract (i + 1) (i + 1 + L)), true) := by
  obtain ⟨z1, a1, b1⟩ := cut_sums s i L (by omega)
  obtain ⟨z2, a2, b2⟩ := cut_sums s (i + 1) L (by omega)
  have f1 : (fun m : Nat => bt s ((i + 1 + m : Nat) : Int)) = fun m => (fun m : Nat => bt s ((i + m : Nat) : Int)) (m + 1) := by
    funext m
    show bt s ((i + 1 + m : Nat) : Int) = bt s ((i + (m + 1) : Nat) : Int)
    rw [show i + 1 + m = i + (m + 1) by omega]
  have s1 := SA_shift (fun m : Nat => bt s ((i + m : Nat) : Int)) L
  have s2 := SB_shift (fun m : Nat => bt s ((i + m : Nat) : Int)) (L : Int) L
  rw [← f1] at s1 s2
  rw [← a2] at s1 s2
  rw [← b2] at s2
  simp only [SA, SB, Nat.add_zero] at s1 s2
  rw [← a1] at s1
  rw [← b1, Int.sub_self, Int.mul_zero] at s2
  have o := bt_bd s (i : Int)
  have n := bt_bd s ((i + L : Nat) : Int)
  unfold rollV
  rw [z1, z2]
  have v := rollOn_val (sA (s.extract i (i + L)) L % 251) (sB (s.extract i (i + L)) L % 251) (bt s (i : Int)) (bt s ((i + L : Nat) : Int)) (L : Int) (by omega) (by omega) o n (by omega)
  rw [v]
  have hc : (L : Int) * bt s (i : Int) = bt s (i : Int) * (L : Int) := Int.mul_comm _ _
  rw [hc]
  generalize bt s (i : Int) * (L : Int) = p at *
  have q1 : (sA (s.extract i (i + L)) L % 251 + 502 - bt s (i : Int) + bt s ((i + L : Nat) : Int)) % 251 = sA (s.extract (i + 1) (i + 1 + L)) L % 251 := by omega
  rw [q1]
  have q2 : (sB (s.extract i (i + L)) L % 251 + (502 * (L : Int) - p) + sA (s.extract (i + 1) (i + 1 + L)) L % 251) % 251 = sB (s.extract (i + 1) (i + 1 + L)) L % 251 := by omega
  rw [q2]

end Go.Proofs.Ytlfgkodipeofiaa.Pure

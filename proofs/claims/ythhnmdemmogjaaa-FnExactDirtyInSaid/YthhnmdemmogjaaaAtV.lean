/- Plain lemmas on what the printed functions answer: numbers and lists alone. -/
import Derived.Test.YthhnmdemmogjaaaPHx0
import Derived.Test.YthhnmdemmogjaaaLayerNums
import Derived.Test.YthhnmdemmogjaaaStringS
namespace Go.Proofs.Ythhnmdemmogjaaa.Pure
open Go.RowKit Go.Proofs.Ythhnmdemmogjaaa.PH Go.Proofs.YthhnmdemmogjaaaW.PrintWords Go.Proofs.YthhnmdemmogjaaaW.PrintLast
set_option linter.unusedVariables false
set_option linter.unusedSimpArgs false

/-- what a block is behind writes: as the reference looks it up, and as the program lays all blocks -/
def sIn (b : Int) : ByteArray → List Int → List ByteArray → ByteArray
  | s, x :: xs, d :: ds => sIn b (if x = b then d else s) xs ds
  | s, _, _ => s
def sAll (b : Int) : ByteArray → List S51 → ByteArray
  | s, [] => s
  | s, y :: l => sAll b (sIn b s y.f1 y.f2) l
def pIn : List ByteArray → List Int → List ByteArray → List ByteArray
  | out, x :: xs, d :: ds => pIn (out.set x.toNat d) xs ds
  | out, _, _ => out
def pAll : List ByteArray → List S51 → List ByteArray
  | out, [] => out
  | out, y :: l => pAll (pIn out y.f1 y.f2) l
/-- a layer's blocks are blocks, and it has as many data -/
def goodL (y : S51) : Prop := (y.f1.length ≤ 1048576 ∧ y.f2.length = y.f1.length) ∧ ∀ x ∈ y.f1, 0 ≤ x ∧ x ≤ 15
theorem pIn_len : ∀ (out : List ByteArray) (xs : List Int) (ds : List ByteArray), (pIn out xs ds).length = out.length
  | out, x :: xs, d :: ds => by rw [pIn, pIn_len _ xs ds, List.length_set]
  | _, [], _ => by simp [pIn]
  | _, _ :: _, [] => by simp [pIn]
theorem pAll_len : ∀ (out : List ByteArray) (l : List S51), (pAll out l).length = out.length
  | _, [] => rfl
  | out, y :: l => by rw [pAll, pAll_len _ l, pIn_len]
theorem pIn_rd (b : Nat) : ∀ (out : List ByteArray) (xs : List Int) (ds : List ByteArray), b < out.length → (∀ x ∈ xs, 0 ≤ x ∧ x ≤ 15) → rdOf ByteArray.empty (pIn out xs ds) (b : Int) = sIn (b : Int) (rdOf ByteArray.empty out (b : Int)) xs ds
  | out, x :: xs, d :: ds, hb, hx => by
    have h0 := hx x (by simp)
    rw [pIn, sIn, pIn_rd b _ xs ds (by rw [List.length_set]; exact hb) (fun z hz => hx z (by simp [hz]))]
    congr 1
    rw [rdT_nat, rdT_nat]
    by_cases c : x = (b : Int)
    · rw [if_pos c, c, Int.toNat_natCast, List.getD_eq_getElem?_getD, List.getElem?_set_self hb]
      rfl
    · rw [if_neg c, List.getD_eq_getElem?_getD, List.getD_eq_getElem?_getD, List.getElem?_set_ne (by omega)]
  | _, [], _, _, _ => by simp [pIn, sIn]
  | _, _ :: _, [], _, _ => by simp [pIn, sIn]
theorem pAll_rd (b : Nat) : ∀ (out : List ByteArray) (l : List S51), b < out.length → (∀ y ∈ l, goodL y) → rdOf ByteArray.empty (pAll out l) (b : Int) = sAll (b : Int) (rdOf ByteArray.empty out (b : Int)) l
  | _, [], _, _ => rfl
  | out, y :: l, hb, hg => by
    rw [pAll, sAll, pAll_rd b _ l (by rw [pIn_len]; exact hb) (fun z hz => hg z (by simp [hz])), pIn_rd b out y.f1 y.f2 hb (hg y (by simp)).2]
/-- sixteen blocks that nobody wrote -/
def zero16 : List ByteArray := List.replicate 16 (⟨#[0, 0]⟩ : ByteArray)
/-- all blocks at a layer -/
def atV (l : List S51) : List ByteArray := pAll zero16 l
theorem atV_len (l : List S51) : (atV l).length = 16 := by unfold atV; rw [pAll_len]; rfl
theorem atV_rd (l : List S51) (hg : ∀ y ∈ l, goodL y) (b : Nat) (hb : b < 16) : rdOf ByteArray.empty (atV l) (b : Int) = sAll (b : Int) (⟨#[0, 0]⟩ : ByteArray) l := by
  unfold atV
  rw [pAll_rd b zero16 l hb hg]
  congr 1
  rw [rdT_nat, zero16, List.getD_eq_getElem?_getD, List.getElem?_replicate, if_pos hb]
  rfl

end Go.Proofs.Ythhnmdemmogjaaa.Pure

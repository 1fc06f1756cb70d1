/- Plain lemmas on what the printed functions answer: numbers and lists alone. -/
import Derived.Test.YthhnmdemmogjaaaPHx0
import Derived.Test.YthhnmdemmogjaaaPHx1
import Derived.Test.YthhnmdemmogjaaaPHx2
import Derived.Test.YthhnmdemmogjaaaToInts
import Derived.Test.YthhnmdemmogjaaaToStrings
import Derived.Test.YthhnmdemmogjaaaLayerNums
namespace Go.Proofs.Ythhnmdemmogjaaa.Pure
open Go.RowKit Go.Proofs.Ythhnmdemmogjaaa.PH Go.Proofs.YthhnmdemmogjaaaW.PrintWords Go.Proofs.YthhnmdemmogjaaaW.PrintLast
set_option linter.unusedVariables false
set_option linter.unusedSimpArgs false

theorem drop_rdW (l : List S98) (i : Nat) (h : i < l.length) : l.drop i = rd_T98 l (i : Int) :: l.drop (i + 1) := by
  rw [List.drop_eq_getElem_cons h]
  simp [rd_T98, List.getD_eq_getElem?_getD, h]
theorem take_rdW (l : List S98) (i : Nat) (h : i < l.length) : l.take (i + 1) = l.take i ++ [rd_T98 l (i : Int)] := by
  rw [List.take_succ_eq_append_getElem h]
  simp [rd_T98, List.getD_eq_getElem?_getD, h]
theorem mem_rdW (l : List S98) (i : Nat) (h : i < l.length) : rd_T98 l (i : Int) ∈ l := by
  have e : rd_T98 l (i : Int) = l[i] := by simp [rd_T98, List.getD_eq_getElem?_getD, h]
  rw [e]
  exact List.getElem_mem h
/-- what toLayer makes of a layer -/
def cvL (x : S98) : S51 := ⟨x.f0, x.f1, x.f2⟩
def smallW (x : S98) : Prop := x.f1.length ≤ 1048576 ∧ x.f2.length ≤ 1048576
theorem toLayerS_l0 (l : List S98) (hb : l.length ≤ 1048576) (hs : ∀ x ∈ l, smallW x) : ∀ (d i : Nat), i + d = l.length →
    Ev (fun k => laws_toLayerS.l0 k l ((l.take i).map cvL ++ List.replicate d z51) (i : Int)) (l.map cvL)
  | 0, i, h => Ev.stepc (fun k => by
      simp only [laws_toLayerS.l0]
      rw [if_neg (by omega), List.take_of_length_le (by omega)]
      simp)
  | d + 1, i, h => by
    have hx := hs _ (mem_rdW l i (by omega))
    have h1 := toIntS_ev (rd_T98 l (i : Int)).f1 (by have := hx.1; omega)
    have h2 := toStringS_ev (rd_T98 l (i : Int)).f2 hx.2
    have hl : Ev (fun k => laws_toLayer.f k (rd_T98 l (i : Int)).f0 (rd_T98 l (i : Int)).f1 (rd_T98 l (i : Int)).f2) ((rd_T98 l (i : Int)).f0, (rd_T98 l (i : Int)).f1, (rd_T98 l (i : Int)).f2) := by
      unfold laws_toLayer.f
      exact Ev.bind h1 (Ev.bind h2 (Ev.now _))
    have ih := toLayerS_l0 l hb hs d (i + 1) (by omega)
    have hl2 : ((l.take i).map cvL).length = i := by rw [List.length_map, List.length_take]; omega
    have e : ((l.take i).map cvL ++ List.replicate (d + 1) z51).set (i : Int).toNat (cvL (rd_T98 l (i : Int))) = (l.take (i + 1)).map cvL ++ List.replicate d z51 := by
      rw [List.replicate_succ, Int.toNat_natCast, List.set_append, take_rdW l i (by omega), hl2]
      simp
    have hlen : (i : Int) < ((((l.take i).map cvL ++ List.replicate (d + 1) z51).length : Nat) : Int) := by rw [List.length_append, hl2, List.length_replicate]; omega
    refine Ev.step (f := fun k => (laws_toLayer.f k (rd_T98 l (i : Int)).f0 (rd_T98 l (i : Int)).f1 (rd_T98 l (i : Int)).f2).bind fun bt132 => laws_toLayerS.l0 k l (((l.take i).map cvL ++ List.replicate (d + 1) z51).set (i : Int).toNat (⟨bt132.1, bt132.2.1, bt132.2.2⟩ : S51)) ((i + 1 : Nat) : Int)) (fun k => ?_) (Ev.bind hl ?_)
    · simp only [laws_toLayerS.l0]
      rw [if_pos (by omega), if_pos (by omega), wnat (by omega)]
      simp only [if_pos hlen]
    · rw [← e] at ih
      exact ih
theorem toMarks_ev (l : List S98) (hb : l.length ≤ 1048576) (hs : ∀ x ∈ l, smallW x) : Ev (fun k => laws_toMarks.f k l) (l.map cvL) := by
  have h := toLayerS_l0 l hb hs l.length 0 (by omega)
  have h1 : (0 : Int) ≤ (l.length : Int) := by omega
  have h2 : ((l.length : Int) : Int).toNat ≤ 5026338869833 := by omega
  unfold laws_toMarks.f laws_toLayerS.f
  simp only [if_pos h1, if_pos h2]
  exact Ev.bind (by simpa using h) (Ev.now _)

end Go.Proofs.Ythhnmdemmogjaaa.Pure

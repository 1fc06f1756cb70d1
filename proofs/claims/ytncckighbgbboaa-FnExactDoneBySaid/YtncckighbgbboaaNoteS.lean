/- Plain lemmas on what the printed functions answer: numbers and lists alone. -/
import Derived.Test.YtncckighbgbboaaPGx0
import Derived.Test.YtncckighbgbboaaPGx2
import Derived.Test.YtncckighbgbboaaPGx4
import Derived.Test.YtncckighbgbboaaNums
namespace Go.Proofs.Ytncckighbgbboaa.Pure
open Go.RowKit Go.Proofs.Ytncckighbgbboaa.PG Go.Proofs.YtncckighbgbboaaW.PrintWords Go.Proofs.YtncckighbgbboaaW.PrintLast
set_option linter.unusedVariables false
set_option linter.unusedSimpArgs false

theorem drop_rd116 (l : List S116) (i : Nat) (h : i < l.length) : l.drop i = rd_T116 l (i : Int) :: l.drop (i + 1) := by
  rw [List.drop_eq_getElem_cons h]
  simp [rd_T116, List.getD_eq_getElem?_getD, h]
theorem take_rd116 (l : List S116) (i : Nat) (h : i < l.length) : l.take (i + 1) = l.take i ++ [rd_T116 l (i : Int)] := by
  rw [List.take_succ_eq_append_getElem h]
  simp [rd_T116, List.getD_eq_getElem?_getD, h]
theorem mem_rd116 (l : List S116) (i : Nat) (h : i < l.length) : rd_T116 l (i : Int) ∈ l := by
  have e : rd_T116 l (i : Int) = l[i] := by simp [rd_T116, List.getD_eq_getElem?_getD, h]
  rw [e]
  exact List.getElem_mem h
theorem drop_rd90 (l : List S90) (i : Nat) (h : i < l.length) : l.drop i = rd_T90 l (i : Int) :: l.drop (i + 1) := by
  rw [List.drop_eq_getElem_cons h]
  simp [rd_T90, List.getD_eq_getElem?_getD, h]
theorem take_rd90 (l : List S90) (i : Nat) (h : i < l.length) : l.take (i + 1) = l.take i ++ [rd_T90 l (i : Int)] := by
  rw [List.take_succ_eq_append_getElem h]
  simp [rd_T90, List.getD_eq_getElem?_getD, h]
theorem mem_rd90 (l : List S90) (i : Nat) (h : i < l.length) : rd_T90 l (i : Int) ∈ l := by
  have e : rd_T90 l (i : Int) = l[i] := by simp [rd_T90, List.getD_eq_getElem?_getD, h]
  rw [e]
  exact List.getElem_mem h
/-- what toNote makes of an element -/
def cvNote (x : S116) : S90 := ⟨x.f0, x.f1, x.f2, x.f3, x.f4⟩
theorem toNoteS_l0 (l : List S116) (hb : l.length ≤ 1048576) : ∀ (d i : Nat), i + d = l.length →
    Ev (fun k => laws_toNoteS.l0 k l ((l.take i).map cvNote ++ List.replicate d z90) (i : Int)) (l.map cvNote)
  | 0, i, h => Ev.stepc (fun k => by
      simp only [laws_toNoteS.l0]
      rw [if_neg (by omega), List.take_of_length_le (by omega)]
      simp)
  | d + 1, i, h => by
    have ih := toNoteS_l0 l hb d (i + 1) (by omega)
    refine Ev.step (f := fun k => laws_toNoteS.l0 k l ((l.take (i + 1)).map cvNote ++ List.replicate d z90) ((i + 1 : Nat) : Int)) (fun k => ?_) ih
    simp only [laws_toNoteS.l0, laws_toNote.f, Option.bind_some]
    have hl : ((l.take i).map cvNote).length = i := by rw [List.length_map, List.length_take]; omega
    have e : ((l.take i).map cvNote ++ List.replicate (d + 1) z90).set (i : Int).toNat (cvNote (rd_T116 l (i : Int))) = (l.take (i + 1)).map cvNote ++ List.replicate d z90 := by
      rw [List.replicate_succ, Int.toNat_natCast, List.set_append, take_rd116 l i (by omega), hl]
      simp
    rw [if_pos (by omega), if_pos (by omega), if_pos (by simp; omega), wnat (by omega)]
    exact congrArg (fun q => laws_toNoteS.l0 k l q ((i + 1 : Nat) : Int)) e
/-- toNoteS copies a list -/
theorem toNoteS_ev (l : List S116) (hb : l.length ≤ 1048576) : Ev (fun k => laws_toNoteS.f k l) (l.map cvNote) := by
  have h := toNoteS_l0 l hb l.length 0 (by omega)
  have h1 : (0 : Int) ≤ (l.length : Int) := by omega
  unfold laws_toNoteS.f
  simp only [if_pos h1, Int.toNat_natCast]
  rw [show (fun k => if l.length ≤ 7036874417766 then laws_toNoteS.l0 k l (List.replicate l.length z90) 0 else none) = fun k => laws_toNoteS.l0 k l (List.replicate l.length z90) 0 from by funext k; rw [if_pos (by omega)]]
  simpa using h
theorem eqNoteS_l0 (a : List S90) (hb : a.length ≤ 1099511627776) : ∀ (d i : Nat), i + d = a.length → Ev (fun k => laws_eqNoteS.l0 k a a (i : Int)) true
  | 0, i, h => Ev.stepc (fun k => by
      simp only [laws_eqNoteS.l0]
      rw [if_neg (by omega)])
  | d + 1, i, h => by
    refine Ev.step (fun k => ?_) (eqNoteS_l0 a hb d (i + 1) (by omega))
    simp only [laws_eqNoteS.l0, laws_eqNote.f]
    rw [if_pos (by omega), if_pos (by omega), if_pos (by omega), wnat (by omega)]
    simp
/-- eqNoteS says yes of a list and itself -/
theorem eqNoteS_self (a : List S90) (hb : a.length ≤ 1099511627776) : Ev (fun k => laws_eqNoteS.f k a a) true := by
  unfold laws_eqNoteS.f
  simp only [if_true]
  exact eqNoteS_l0 a hb a.length 0 (by omega)
/-- what szNoteS tells: where it is not below 0, there are not too many elements -/
theorem szNoteS_ev (l : List S116) (hm : l.length ≤ maxLen) : ∃ r, Ev (fun k => laws_szNoteS.f l 1048576) r ∧ (0 ≤ r → l.length ≤ 1048576) := by
  unfold maxLen at hm
  unfold laws_szNoteS.f
  have e1 : wrap64 (1048576 - (l.length : Int)) = 1048576 - (l.length : Int) := w64 (by omega) (by omega)
  by_cases c : (1048576 : Int) - (l.length : Int) < 0
  · refine ⟨-1, ?_, fun h => by omega⟩
    rw [e1]
    simp only [if_pos c]
    exact Ev.now _
  · refine ⟨1048576 - (l.length : Int), ?_, fun h => by omega⟩
    rw [e1]
    simp only [if_neg c]
    exact Ev.now _

end Go.Proofs.Ytncckighbgbboaa.Pure

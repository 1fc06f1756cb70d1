/- Plain lemmas on what the printed functions answer: numbers and lists alone. -/
import Derived.Test.YtlfgkodipeofiaaPFx0
import Derived.Test.YtlfgkodipeofiaaPFx1
import Derived.Test.YtlfgkodipeofiaaPFx5
import Derived.Test.YtlfgkodipeofiaaNums
namespace Go.Proofs.Ytlfgkodipeofiaa.Pure
open Go.RowKit Go.Proofs.Ytlfgkodipeofiaa.PF Go.Proofs.YtlfgkodipeofiaaW.PrintWords Go.Proofs.YtlfgkodipeofiaaW.PrintLast
set_option linter.unusedVariables false
set_option linter.unusedSimpArgs false

theorem drop_rd58 (l : List S58) (i : Nat) (h : i < l.length) : l.drop i = rd_T58 l (i : Int) :: l.drop (i + 1) := by
  rw [List.drop_eq_getElem_cons h]
  simp [rd_T58, List.getD_eq_getElem?_getD, h]
theorem take_rd58 (l : List S58) (i : Nat) (h : i < l.length) : l.take (i + 1) = l.take i ++ [rd_T58 l (i : Int)] := by
  rw [List.take_succ_eq_append_getElem h]
  simp [rd_T58, List.getD_eq_getElem?_getD, h]
theorem mem_rd58 (l : List S58) (i : Nat) (h : i < l.length) : rd_T58 l (i : Int) ∈ l := by
  have e : rd_T58 l (i : Int) = l[i] := by simp [rd_T58, List.getD_eq_getElem?_getD, h]
  rw [e]
  exact List.getElem_mem h
theorem drop_rd59 (l : List S59) (i : Nat) (h : i < l.length) : l.drop i = rd_T59 l (i : Int) :: l.drop (i + 1) := by
  rw [List.drop_eq_getElem_cons h]
  simp [rd_T59, List.getD_eq_getElem?_getD, h]
theorem take_rd59 (l : List S59) (i : Nat) (h : i < l.length) : l.take (i + 1) = l.take i ++ [rd_T59 l (i : Int)] := by
  rw [List.take_succ_eq_append_getElem h]
  simp [rd_T59, List.getD_eq_getElem?_getD, h]
theorem mem_rd59 (l : List S59) (i : Nat) (h : i < l.length) : rd_T59 l (i : Int) ∈ l := by
  have e : rd_T59 l (i : Int) = l[i] := by simp [rd_T59, List.getD_eq_getElem?_getD, h]
  rw [e]
  exact List.getElem_mem h
/-- what toPart makes of an element -/
def cvPart (x : S58) : S59 := ⟨x.f0, x.f1, x.f2⟩
theorem toPartS_l0 (l : List S58) (hb : l.length ≤ 1048576) : ∀ (d i : Nat), i + d = l.length →
    Ev (fun k => laws_toPartS.l0 k l ((l.take i).map cvPart ++ List.replicate d z59) (i : Int)) (l.map cvPart)
  | 0, i, h => Ev.stepc (fun k => by
      simp only [laws_toPartS.l0]
      rw [if_neg (by omega), List.take_of_length_le (by omega)]
      simp)
  | d + 1, i, h => by
    have ih := toPartS_l0 l hb d (i + 1) (by omega)
    refine Ev.step (f := fun k => laws_toPartS.l0 k l ((l.take (i + 1)).map cvPart ++ List.replicate d z59) ((i + 1 : Nat) : Int)) (fun k => ?_) ih
    simp only [laws_toPartS.l0, laws_toPart.f, Option.bind_some]
    have hl : ((l.take i).map cvPart).length = i := by rw [List.length_map, List.length_take]; omega
    have e : ((l.take i).map cvPart ++ List.replicate (d + 1) z59).set (i : Int).toNat (cvPart (rd_T58 l (i : Int))) = (l.take (i + 1)).map cvPart ++ List.replicate d z59 := by
      rw [List.replicate_succ, Int.toNat_natCast, List.set_append, take_rd58 l i (by omega), hl]
      simp
    rw [if_pos (by omega), if_pos (by omega), if_pos (by simp; omega), wnat (by omega)]
    exact congrArg (fun q => laws_toPartS.l0 k l q ((i + 1 : Nat) : Int)) e
/-- toPartS copies a list -/
theorem toPartS_ev (l : List S58) (hb : l.length ≤ 1048576) : Ev (fun k => laws_toPartS.f k l) (l.map cvPart) := by
  have h := toPartS_l0 l hb l.length 0 (by omega)
  have h1 : (0 : Int) ≤ (l.length : Int) := by omega
  unfold laws_toPartS.f
  simp only [if_pos h1, Int.toNat_natCast]
  rw [show (fun k => if l.length ≤ 8796093022208 then laws_toPartS.l0 k l (List.replicate l.length z59) 0 else none) = fun k => laws_toPartS.l0 k l (List.replicate l.length z59) 0 from by funext k; rw [if_pos (by omega)]]
  simpa using h
theorem eqPartS_l0 (a : List S59) (hb : a.length ≤ 1099511627776) : ∀ (d i : Nat), i + d = a.length → Ev (fun k => laws_eqPartS.l0 k a a (i : Int)) true
  | 0, i, h => Ev.stepc (fun k => by
      simp only [laws_eqPartS.l0]
      rw [if_neg (by omega)])
  | d + 1, i, h => by
    refine Ev.step (fun k => ?_) (eqPartS_l0 a hb d (i + 1) (by omega))
    simp only [laws_eqPartS.l0, laws_eqPart.f]
    rw [if_pos (by omega), if_pos (by omega), if_pos (by omega), wnat (by omega)]
    simp
/-- eqPartS says yes of a list and itself -/
theorem eqPartS_self (a : List S59) (hb : a.length ≤ 1099511627776) : Ev (fun k => laws_eqPartS.f k a a) true := by
  unfold laws_eqPartS.f
  simp only [if_true]
  exact eqPartS_l0 a hb a.length 0 (by omega)
theorem szPartS_l0 (l : List S58) (hb : l.length ≤ 1048576) (hw : ∀ x ∈ l, wf58 x) : ∀ (d i : Nat) (left : Int), i + d = l.length → 0 ≤ left → left ≤ 1048576 →
    ∃ r, Ev (fun k => laws_szPartS.l0 k l left (i : Int)) r ∧ (0 ≤ r → ∀ x ∈ l.drop i, x.f2.size ≤ 1048576)
  | 0, i, left, h, h0, h1 => ⟨left, Ev.stepc (fun k => by
      simp only [laws_szPartS.l0]
      rw [if_neg (by omega)]), fun _ x hx => by rw [List.drop_eq_nil_of_le (by omega)] at hx; cases hx⟩
  | d + 1, i, left, h, h0, h1 => by
    have hs : ((rd_T58 l (i : Int)).f2).size ≤ maxLen := (hw _ (mem_rd58 l i (by omega))).2.2
    unfold maxLen at hs
    have e1 : wrap64 (left - (((rd_T58 l (i : Int)).f2).size : Int)) = left - (((rd_T58 l (i : Int)).f2).size : Int) := w64 (by omega) (by omega)
    by_cases c : left - (((rd_T58 l (i : Int)).f2).size : Int) < 0
    · refine ⟨-1, Ev.stepc (fun k => ?_), fun h => by omega⟩
      simp only [laws_szPartS.l0, laws_szPart.f]
      rw [if_pos (by omega), if_pos (by omega), e1, if_pos c, Option.bind_some, if_pos (by omega)]
    · obtain ⟨r, hr, hx⟩ := szPartS_l0 l hb hw d (i + 1) (left - (((rd_T58 l (i : Int)).f2).size : Int)) (by omega) (by omega) (by omega)
      refine ⟨r, Ev.step (fun k => ?_) hr, fun h x hxm => ?_⟩
      · simp only [laws_szPartS.l0, laws_szPart.f]
        rw [if_pos (by omega), if_pos (by omega), e1, if_neg c, Option.bind_some, if_neg c, wnat (by omega)]
      · rw [drop_rd58 l i (by omega)] at hxm
        rcases List.mem_cons.1 hxm with e | e
        · rw [e]
          show ((rd_T58 l (i : Int)).f2).size ≤ 1048576
          omega
        · exact hx h x e
/-- what szPartS tells: where it is not below 0, there are not too many elements, and their texts are not too long -/
theorem szPartS_ev (l : List S58) (hm : l.length ≤ maxLen) (hw : ∀ x ∈ l, wf58 x) : ∃ r, Ev (fun k => laws_szPartS.f k l 1048576) r ∧ (0 ≤ r → l.length ≤ 1048576 ∧ ∀ x ∈ l, x.f2.size ≤ 1048576) := by
  unfold maxLen at hm
  unfold laws_szPartS.f
  have e1 : wrap64 (1048576 - (l.length : Int)) = 1048576 - (l.length : Int) := w64 (by omega) (by omega)
  by_cases c : (1048576 : Int) - (l.length : Int) < 0
  · refine ⟨-1, ?_, fun h => by omega⟩
    rw [e1]
    simp only [if_pos c]
    exact Ev.now _
  · obtain ⟨r, hr, hx⟩ := szPartS_l0 l (by omega) hw l.length 0 (1048576 - (l.length : Int)) (by omega) (by omega) (by omega)
    refine ⟨r, ?_, fun h => ⟨by omega, fun x hx0 => hx h x (by simpa using hx0)⟩⟩
    rw [e1]
    simp only [if_neg c]
    exact hr

end Go.Proofs.Ytlfgkodipeofiaa.Pure

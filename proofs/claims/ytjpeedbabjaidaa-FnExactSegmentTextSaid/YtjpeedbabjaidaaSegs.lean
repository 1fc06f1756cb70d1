/- Plain lemmas on what the printed functions answer: numbers and lists alone. -/
import Derived.Test.YtjpeedbabjaidaaPAx0
import Derived.Test.YtjpeedbabjaidaaPAx1
import Derived.Test.YtjpeedbabjaidaaPAx2
import Derived.Test.YtjpeedbabjaidaaPAx3
import Derived.Test.YtjpeedbabjaidaaPAx4
import Derived.Test.YtjpeedbabjaidaaTexts
namespace Go.Proofs.Ytjpeedbabjaidaa.Pure
open Go.RowKit Go.Proofs.Ytjpeedbabjaidaa.PA Go.Proofs.YtjpeedbabjaidaaW.PrintWords Go.Proofs.YtjpeedbabjaidaaW.PrintLast
set_option linter.unusedVariables false
set_option linter.unusedSimpArgs false

theorem drop_rd23 (l : List S23) (i : Nat) (h : i < l.length) : l.drop i = rd_T23 l (i : Int) :: l.drop (i + 1) := by
  rw [List.drop_eq_getElem_cons h]
  simp [rd_T23, List.getD_eq_getElem?_getD, h]
theorem take_rd23 (l : List S23) (i : Nat) (h : i < l.length) : l.take (i + 1) = l.take i ++ [rd_T23 l (i : Int)] := by
  rw [List.take_succ_eq_append_getElem h]
  simp [rd_T23, List.getD_eq_getElem?_getD, h]
theorem mem_rd23 (l : List S23) (i : Nat) (h : i < l.length) : rd_T23 l (i : Int) ∈ l := by
  have e : rd_T23 l (i : Int) = l[i] := by simp [rd_T23, List.getD_eq_getElem?_getD, h]
  rw [e]
  exact List.getElem_mem h
theorem drop_rd27 (l : List S27) (i : Nat) (h : i < l.length) : l.drop i = rd_T27 l (i : Int) :: l.drop (i + 1) := by
  rw [List.drop_eq_getElem_cons h]
  simp [rd_T27, List.getD_eq_getElem?_getD, h]
theorem take_rd27 (l : List S27) (i : Nat) (h : i < l.length) : l.take (i + 1) = l.take i ++ [rd_T27 l (i : Int)] := by
  rw [List.take_succ_eq_append_getElem h]
  simp [rd_T27, List.getD_eq_getElem?_getD, h]
theorem mem_rd27 (l : List S27) (i : Nat) (h : i < l.length) : rd_T27 l (i : Int) ∈ l := by
  have e : rd_T27 l (i : Int) = l[i] := by simp [rd_T27, List.getD_eq_getElem?_getD, h]
  rw [e]
  exact List.getElem_mem h
/-- what toRecord makes of an element -/
def cvRecord (x : S23) : S27 := ⟨x.f0, x.f1, x.f2, x.f3⟩
theorem toRecordS_l0 (l : List S23) (hb : l.length ≤ 1048576) : ∀ (d i : Nat), i + d = l.length →
    Ev (fun k => laws_toRecordS.l0 k l ((l.take i).map cvRecord ++ List.replicate d z27) (i : Int)) (l.map cvRecord)
  | 0, i, h => Ev.stepc (fun k => by
      simp only [laws_toRecordS.l0]
      rw [if_neg (by omega), List.take_of_length_le (by omega)]
      simp)
  | d + 1, i, h => by
    have ih := toRecordS_l0 l hb d (i + 1) (by omega)
    refine Ev.step (f := fun k => laws_toRecordS.l0 k l ((l.take (i + 1)).map cvRecord ++ List.replicate d z27) ((i + 1 : Nat) : Int)) (fun k => ?_) ih
    simp only [laws_toRecordS.l0, laws_toRecord.f, Option.bind_some]
    have hl : ((l.take i).map cvRecord).length = i := by rw [List.length_map, List.length_take]; omega
    have e : ((l.take i).map cvRecord ++ List.replicate (d + 1) z27).set (i : Int).toNat (cvRecord (rd_T23 l (i : Int))) = (l.take (i + 1)).map cvRecord ++ List.replicate d z27 := by
      rw [List.replicate_succ, Int.toNat_natCast, List.set_append, take_rd23 l i (by omega), hl]
      simp
    rw [if_pos (by omega), if_pos (by omega), if_pos (by simp; omega), wnat (by omega)]
    exact congrArg (fun q => laws_toRecordS.l0 k l q ((i + 1 : Nat) : Int)) e
/-- toRecordS copies a list -/
theorem toRecordS_ev (l : List S23) (hb : l.length ≤ 1048576) : Ev (fun k => laws_toRecordS.f k l) (l.map cvRecord) := by
  have h := toRecordS_l0 l hb l.length 0 (by omega)
  have h1 : (0 : Int) ≤ (l.length : Int) := by omega
  unfold laws_toRecordS.f
  simp only [if_pos h1, Int.toNat_natCast]
  rw [show (fun k => if l.length ≤ 7036874417766 then laws_toRecordS.l0 k l (List.replicate l.length z27) 0 else none) = fun k => laws_toRecordS.l0 k l (List.replicate l.length z27) 0 from by funext k; rw [if_pos (by omega)]]
  simpa using h
theorem eqRecordS_l0 (a : List S27) (hb : a.length ≤ 1099511627776) : ∀ (d i : Nat), i + d = a.length → Ev (fun k => laws_eqRecordS.l0 k a a (i : Int)) true
  | 0, i, h => Ev.stepc (fun k => by
      simp only [laws_eqRecordS.l0]
      rw [if_neg (by omega)])
  | d + 1, i, h => by
    refine Ev.step (fun k => ?_) (eqRecordS_l0 a hb d (i + 1) (by omega))
    simp only [laws_eqRecordS.l0, laws_eqRecord.f]
    rw [if_pos (by omega), if_pos (by omega), if_pos (by omega), wnat (by omega)]
    simp
/-- eqRecordS says yes of a list and itself -/
theorem eqRecordS_self (a : List S27) (hb : a.length ≤ 1099511627776) : Ev (fun k => laws_eqRecordS.f k a a) true := by
  unfold laws_eqRecordS.f
  simp only [if_true]
  exact eqRecordS_l0 a hb a.length 0 (by omega)
theorem szRecordS_l0 (l : List S23) (hb : l.length ≤ 1048576) (hw : ∀ x ∈ l, wf23 x) : ∀ (d i : Nat) (left : Int), i + d = l.length → 0 ≤ left → left ≤ 1048576 →
    ∃ r, Ev (fun k => laws_szRecordS.l0 k l left (i : Int)) r ∧ (0 ≤ r → ∀ x ∈ l.drop i, x.f3.size ≤ 1048576)
  | 0, i, left, h, h0, h1 => ⟨left, Ev.stepc (fun k => by
      simp only [laws_szRecordS.l0]
      rw [if_neg (by omega)]), fun _ x hx => by rw [List.drop_eq_nil_of_le (by omega)] at hx; cases hx⟩
  | d + 1, i, left, h, h0, h1 => by
    have hs : ((rd_T23 l (i : Int)).f3).size ≤ maxLen := (hw _ (mem_rd23 l i (by omega))).2.2.2
    unfold maxLen at hs
    have e1 : wrap64 (left - (((rd_T23 l (i : Int)).f3).size : Int)) = left - (((rd_T23 l (i : Int)).f3).size : Int) := w64 (by omega) (by omega)
    by_cases c : left - (((rd_T23 l (i : Int)).f3).size : Int) < 0
    · refine ⟨-1, Ev.stepc (fun k => ?_), fun h => by omega⟩
      simp only [laws_szRecordS.l0, laws_szRecord.f]
      rw [if_pos (by omega), if_pos (by omega), e1, if_pos c, Option.bind_some, if_pos (by omega)]
    · obtain ⟨r, hr, hx⟩ := szRecordS_l0 l hb hw d (i + 1) (left - (((rd_T23 l (i : Int)).f3).size : Int)) (by omega) (by omega) (by omega)
      refine ⟨r, Ev.step (fun k => ?_) hr, fun h x hxm => ?_⟩
      · simp only [laws_szRecordS.l0, laws_szRecord.f]
        rw [if_pos (by omega), if_pos (by omega), e1, if_neg c, Option.bind_some, if_neg c, wnat (by omega)]
      · rw [drop_rd23 l i (by omega)] at hxm
        rcases List.mem_cons.1 hxm with e | e
        · rw [e]
          show ((rd_T23 l (i : Int)).f3).size ≤ 1048576
          omega
        · exact hx h x e
/-- what szRecordS tells: where it is not below 0, there are not too many elements, and their texts are not too long -/
theorem szRecordS_ev (l : List S23) (hm : l.length ≤ maxLen) (hw : ∀ x ∈ l, wf23 x) : ∃ r, Ev (fun k => laws_szRecordS.f k l 1048576) r ∧ (0 ≤ r → l.length ≤ 1048576 ∧ ∀ x ∈ l, x.f3.size ≤ 1048576) := by
  unfold maxLen at hm
  unfold laws_szRecordS.f
  have e1 : wrap64 (1048576 - (l.length : Int)) = 1048576 - (l.length : Int) := w64 (by omega) (by omega)
  by_cases c : (1048576 : Int) - (l.length : Int) < 0
  · refine ⟨-1, ?_, fun h => by omega⟩
    rw [e1]
    simp only [if_pos c]
    exact Ev.now _
  · obtain ⟨r, hr, hx⟩ := szRecordS_l0 l (by omega) hw l.length 0 (1048576 - (l.length : Int)) (by omega) (by omega) (by omega)
    refine ⟨r, ?_, fun h => ⟨by omega, fun x hx0 => hx h x (by simpa using hx0)⟩⟩
    rw [e1]
    simp only [if_neg c]
    exact hr
abbrev R := S27
def goodR (x : R) : Bool := goodB x.f0 x.f1 x.f2 x.f3
def textR (x : R) : ByteArray := textV x.f0 x.f1 x.f2 x.f3
def segV (acc : ByteArray) : List R → ByteArray
  | [] => acc
  | x :: l => segV (acc ++ textR x) l
theorem textR_size {x : R} (h : goodR x = true) : 6 ≤ (textR x).size ∧ (textR x).size ≤ 14 := by
  have h1 := good_size h
  unfold textR
  rw [text_size]
  omega
theorem segV_size : ∀ (l : List R) (acc : ByteArray), l.all goodR = true → acc.size + 6 * l.length ≤ (segV acc l).size ∧ (segV acc l).size ≤ acc.size + 14 * l.length
  | [], acc, _ => by simp [segV]
  | x :: l, acc, h => by
    rw [List.all_cons, Bool.and_eq_true] at h
    have h1 := textR_size h.1
    have h2 := segV_size l (acc ++ textR x) h.2
    rw [ByteArray.size_append] at h2
    rw [segV, List.length_cons]
    omega
theorem spec_goods_l0 (l : List R) (hl : l.length ≤ 1048576) : ∀ (d i : Nat), i + d = l.length → Ev (fun k => spec_l3Good.l0 k l (l.length : Int) (i : Int)) ((l.drop i).all goodR)
  | 0, i, e => by
    refine Ev.stepc (fun k => ?_)
    rw [spec_l3Good.l0, if_neg (by omega), List.drop_eq_nil_of_le (by omega)]
    rfl
  | d + 1, i, e => by
    rw [drop_rd27 l i (by omega), List.all_cons]
    cases hg : goodR (rd_T27 l (i : Int)) with
    | false =>
      refine Ev.stepc (fun k => ?_)
      rw [spec_l3Good.l0, if_pos (by omega), if_pos (by omega), if_pos (by omega), spec_good, Option.bind_some]
      rw [show goodB _ _ _ _ = false from hg]
      rfl
    | true =>
      rw [Bool.true_and]
      refine Ev.step (fun k => ?_) (spec_goods_l0 l hl d (i + 1) (by omega))
      rw [spec_l3Good.l0, if_pos (by omega), if_pos (by omega), if_pos (by omega), spec_good, Option.bind_some]
      rw [show goodB _ _ _ _ = true from hg, if_pos rfl, wnat (by omega)]
theorem spec_goods (l : List R) (hl : l.length ≤ 1048576) : Ev (fun k => spec_l3Good.f k l) (l.all goodR) := spec_goods_l0 l hl l.length 0 (by omega)
theorem impl_goods : ∀ l : List R, allO (fun z : R => impl_GoodRecord.f z.f0 z.f1 z.f2 z.f3) l = some (l.all goodR)
  | [] => rfl
  | z :: l => by
    rw [allO, impl_good, Option.bind_some, List.all_cons]
    rw [show goodB z.f0 z.f1 z.f2 z.f3 = goodR z from rfl]
    cases goodR z with
    | true => rw [if_pos rfl, Bool.true_and]; exact impl_goods l
    | false => rfl
theorem spec_seg_l0 (l : List R) (hl : l.length ≤ 1048576) (hg : l.all goodR = true) : ∀ (d i : Nat) (acc : ByteArray), i + d = l.length → acc.size ≤ 14 * i → Ev (fun k => spec_l3Segment.l0 k acc l (l.length : Int) (i : Int)) (segV acc (l.drop i))
  | 0, i, acc, e, _ => by
    refine Ev.stepc (fun k => ?_)
    rw [spec_l3Segment.l0, if_neg (by omega), List.drop_eq_nil_of_le (by omega)]
    rfl
  | d + 1, i, acc, e, ha => by
    have hx : goodR (rd_T27 l (i : Int)) = true := List.all_eq_true.1 hg _ (mem_rd27 l i (by omega))
    have h8 := good_size hx
    have ht := textR_size hx
    have h3 : acc.size + (textR (rd_T27 l (i : Int))).size ≤ 9223372036854775807 := by omega
    have ih := spec_seg_l0 l hl hg d (i + 1) (acc ++ textR (rd_T27 l (i : Int))) (by omega) (by rw [ByteArray.size_append]; omega)
    rw [drop_rd27 l i (by omega), segV]
    refine Ev.step (f := fun k => (spec_l3Text.f k (rd_T27 l (i : Int)).f0 (rd_T27 l (i : Int)).f1 (rd_T27 l (i : Int)).f2 (rd_T27 l (i : Int)).f3).bind fun t202 => (if acc.size + t202.size ≤ 9223372036854775807 then (spec_l3Segment.l0 k (acc ++ t202) l (l.length : Int) (wrap64 ((i : Int) + 1))) else (none))) (fun k => ?_) (Ev.bind (spec_text _ _ _ _ (by omega)) ?_)
    · rw [spec_l3Segment.l0, if_pos (by omega), if_pos (by omega), if_pos (by omega)]
    · have h4 : acc.size + (textV (rd_T27 l (i : Int)).f0 (rd_T27 l (i : Int)).f1 (rd_T27 l (i : Int)).f2 (rd_T27 l (i : Int)).f3).size ≤ 9223372036854775807 := h3
      rw [wnat (by omega)]
      simp only [if_pos h4]
      exact ih
theorem spec_seg (l : List R) (hl : l.length ≤ 1048576) (hg : l.all goodR = true) : Ev (fun k => spec_l3Segment.f k l) (segV ⟨#[]⟩ l) := spec_seg_l0 l hl hg l.length 0 ⟨#[]⟩ (by omega) (by show 0 ≤ 14 * 0; omega)
theorem impl_seg_l0 (l : List R) (hl : l.length ≤ 1048576) (hg : l.all goodR = true) : ∀ (d i : Nat) (acc : ByteArray), i + d = l.length → acc.size ≤ 14 * i → Ev (fun k => impl_segment.l0 k acc l (l.length : Int) (i : Int)) (segV acc (l.drop i))
  | 0, i, acc, e, _ => by
    refine Ev.stepc (fun k => ?_)
    rw [impl_segment.l0, if_neg (by omega), List.drop_eq_nil_of_le (by omega)]
    rfl
  | d + 1, i, acc, e, ha => by
    have hx : goodR (rd_T27 l (i : Int)) = true := List.all_eq_true.1 hg _ (mem_rd27 l i (by omega))
    have h8 := good_size hx
    have ht := textR_size hx
    have h3 : acc.size + (textR (rd_T27 l (i : Int))).size ≤ 9223372036854775807 := by omega
    have ih := impl_seg_l0 l hl hg d (i + 1) (acc ++ textR (rd_T27 l (i : Int))) (by omega) (by rw [ByteArray.size_append]; omega)
    rw [drop_rd27 l i (by omega), segV]
    refine Ev.step (fun k => ?_) ih
    rw [impl_segment.l0, if_pos (by omega), if_pos (by omega), if_pos (by omega), impl_text _ _ _ _ (by omega), Option.bind_some, wnat (by omega)]
    exact if_pos h3
theorem impl_seg (l : List R) (hl : l.length ≤ 1048576) (hg : l.all goodR = true) : Ev (fun k => impl_segment.f k l) (segV ⟨#[]⟩ l) := impl_seg_l0 l hl hg l.length 0 ⟨#[]⟩ (by omega) (by show 0 ≤ 14 * 0; omega)

end Go.Proofs.Ytjpeedbabjaidaa.Pure

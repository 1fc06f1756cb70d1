/- Plain lemmas on what the printed functions answer: numbers and lists alone. -/
import Derived.Test.YtjpeedbabjaidaaPRx0
import Derived.Test.YtjpeedbabjaidaaPRx2
import Derived.Test.YtjpeedbabjaidaaPRx3
import Derived.Test.YtjpeedbabjaidaaPRx7
import Derived.Test.YtjpeedbabjaidaaPRx8
import Derived.Test.YtjpeedbabjaidaaTexts
namespace Go.Proofs.Ytjpeedbabjaidaa.Pure
open Go.RowKit Go.Proofs.Ytjpeedbabjaidaa.PR Go.Proofs.YtjpeedbabjaidaaW.PrintWords Go.Proofs.YtjpeedbabjaidaaW.PrintLast
set_option linter.unusedVariables false
set_option linter.unusedSimpArgs false

theorem drop_rdR (l : List S27) (i : Nat) (h : i < l.length) : l.drop i = rd_T27 l (i : Int) :: l.drop (i + 1) := by
  rw [List.drop_eq_getElem_cons h]
  simp [rd_T27, List.getD_eq_getElem?_getD, h]
theorem mem_rdR (l : List S27) (i : Nat) (h : i < l.length) : rd_T27 l (i : Int) ∈ l := by
  have e : rd_T27 l (i : Int) = l[i] := by simp [rd_T27, List.getD_eq_getElem?_getD, h]
  rw [e]
  exact List.getElem_mem h
abbrev R := S27
def goodR (x : R) : Bool := goodB x.f0 x.f1 x.f2 x.f3
def textR (x : R) : ByteArray := textV x.f0 x.f1 x.f2 x.f3
def segV (acc : ByteArray) : List R → ByteArray
  | [] => acc
  | x :: l => segV (acc ++ textR x) l
theorem textR_size {x : R} (h : goodR x = true) : 6 ≤ (textR x).size ∧ (textR x).size ≤ 14 := by
  have h1 := good_size h
  unfold textR
  rw [text_size]
  omega
theorem segV_size : ∀ (l : List R) (acc : ByteArray), l.all goodR = true → acc.size + 6 * l.length ≤ (segV acc l).size ∧ (segV acc l).size ≤ acc.size + 14 * l.length
  | [], acc, _ => by simp [segV]
  | x :: l, acc, h => by
    rw [List.all_cons, Bool.and_eq_true] at h
    have h1 := textR_size h.1
    have h2 := segV_size l (acc ++ textR x) h.2
    rw [ByteArray.size_append] at h2
    rw [segV, List.length_cons]
    omega
theorem spec_goods_l0 (l : List R) (hl : l.length ≤ 1048576) : ∀ (d i : Nat), i + d = l.length → Ev (fun k => spec_l3Good.l0 k l (l.length : Int) (i : Int)) ((l.drop i).all goodR)
  | 0, i, e => by
    refine Ev.stepc (fun k => ?_)
    rw [spec_l3Good.l0, if_neg (by omega), List.drop_eq_nil_of_le (by omega)]
    rfl
  | d + 1, i, e => by
    rw [drop_rdR l i (by omega), List.all_cons]
    cases hg : goodR (rd_T27 l (i : Int)) with
    | false =>
      refine Ev.stepc (fun k => ?_)
      rw [spec_l3Good.l0, if_pos (by omega), if_pos (by omega), if_pos (by omega), spec_good, Option.bind_some]
      rw [show goodB _ _ _ _ = false from hg]
      rfl
    | true =>
      rw [Bool.true_and]
      refine Ev.step (fun k => ?_) (spec_goods_l0 l hl d (i + 1) (by omega))
      rw [spec_l3Good.l0, if_pos (by omega), if_pos (by omega), if_pos (by omega), spec_good, Option.bind_some]
      rw [show goodB _ _ _ _ = true from hg, if_pos rfl, wnat (by omega)]
theorem spec_goods (l : List R) (hl : l.length ≤ 1048576) : Ev (fun k => spec_l3Good.f k l) (l.all goodR) := spec_goods_l0 l hl l.length 0 (by omega)
theorem impl_goods : ∀ l : List R, allO (fun z : R => impl_GoodRecord.f z.f0 z.f1 z.f2 z.f3) l = some (l.all goodR)
  | [] => rfl
  | z :: l => by
    rw [allO, impl_good, Option.bind_some, List.all_cons]
    rw [show goodB z.f0 z.f1 z.f2 z.f3 = goodR z from rfl]
    cases goodR z with
    | true => rw [if_pos rfl, Bool.true_and]; exact impl_goods l
    | false => rfl
theorem spec_seg_l0 (l : List R) (hl : l.length ≤ 1048576) (hg : l.all goodR = true) : ∀ (d i : Nat) (acc : ByteArray), i + d = l.length → acc.size ≤ 14 * i → Ev (fun k => spec_l3Segment.l0 k acc l (l.length : Int) (i : Int)) (segV acc (l.drop i))
  | 0, i, acc, e, _ => by
    refine Ev.stepc (fun k => ?_)
    rw [spec_l3Segment.l0, if_neg (by omega), List.drop_eq_nil_of_le (by omega)]
    rfl
  | d + 1, i, acc, e, ha => by
    have hx : goodR (rd_T27 l (i : Int)) = true := List.all_eq_true.1 hg _ (mem_rdR l i (by omega))
    have h8 := good_size hx
    have ht := textR_size hx
    have h3 : acc.size + (textR (rd_T27 l (i : Int))).size ≤ 9223372036854775807 := by omega
    have ih := spec_seg_l0 l hl hg d (i + 1) (acc ++ textR (rd_T27 l (i : Int))) (by omega) (by rw [ByteArray.size_append]; omega)
    rw [drop_rdR l i (by omega), segV]
    refine Ev.step (f := fun k => (spec_l3Text.f k (rd_T27 l (i : Int)).f0 (rd_T27 l (i : Int)).f1 (rd_T27 l (i : Int)).f2 (rd_T27 l (i : Int)).f3).bind fun t202 => (if acc.size + t202.size ≤ 9223372036854775807 then (spec_l3Segment.l0 k (acc ++ t202) l (l.length : Int) (wrap64 ((i : Int) + 1))) else (none))) (fun k => ?_) (Ev.bind (spec_text _ _ _ _ (by omega)) ?_)
    · rw [spec_l3Segment.l0, if_pos (by omega), if_pos (by omega), if_pos (by omega)]
    · have h4 : acc.size + (textV (rd_T27 l (i : Int)).f0 (rd_T27 l (i : Int)).f1 (rd_T27 l (i : Int)).f2 (rd_T27 l (i : Int)).f3).size ≤ 9223372036854775807 := h3
      rw [wnat (by omega)]
      simp only [if_pos h4]
      exact ih
theorem spec_seg (l : List R) (hl : l.length ≤ 1048576) (hg : l.all goodR = true) : Ev (fun k => spec_l3Segment.f k l) (segV ⟨#[]⟩ l) := spec_seg_l0 l hl hg l.length 0 ⟨#[]⟩ (by omega) (by show 0 ≤ 14 * 0; omega)
theorem impl_seg_l0 (l : List R) (hl : l.length ≤ 1048576) (hg : l.all goodR = true) : ∀ (d i : Nat) (acc : ByteArray), i + d = l.length → acc.size ≤ 14 * i → Ev (fun k => impl_segment.l0 k acc l (l.length : Int) (i : Int)) (segV acc (l.drop i))
  | 0, i, acc, e, _ => by
    refine Ev.stepc (fun k => ?_)
    rw [impl_segment.l0, if_neg (by omega), List.drop_eq_nil_of_le (by omega)]
    rfl
  | d + 1, i, acc, e, ha => by
    have hx : goodR (rd_T27 l (i : Int)) = true := List.all_eq_true.1 hg _ (mem_rdR l i (by omega))
    have h8 := good_size hx
    have ht := textR_size hx
    have h3 : acc.size + (textR (rd_T27 l (i : Int))).size ≤ 9223372036854775807 := by omega
    have ih := impl_seg_l0 l hl hg d (i + 1) (acc ++ textR (rd_T27 l (i : Int))) (by omega) (by rw [ByteArray.size_append]; omega)
    rw [drop_rdR l i (by omega), segV]
    refine Ev.step (fun k => ?_) ih
    rw [impl_segment.l0, if_pos (by omega), if_pos (by omega), if_pos (by omega), impl_text _ _ _ _ (by omega), Option.bind_some, wnat (by omega)]
    exact if_pos h3
theorem impl_seg (l : List R) (hl : l.length ≤ 1048576) (hg : l.all goodR = true) : Ev (fun k => impl_segment.f k l) (segV ⟨#[]⟩ l) := impl_seg_l0 l hl hg l.length 0 ⟨#[]⟩ (by omega) (by show 0 ≤ 14 * 0; omega)

end Go.Proofs.Ytjpeedbabjaidaa.Pure

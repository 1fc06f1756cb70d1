/- Plain lemmas on what the printed functions answer: numbers and lists alone. -/
import Derived.Test.YtjpeedbabjaidaaPRx0
import Derived.Test.YtjpeedbabjaidaaPRx4
import Derived.Test.YtjpeedbabjaidaaPRx6
import Derived.Test.YtjpeedbabjaidaaPRx7
import Derived.Test.YtjpeedbabjaidaaReads
namespace Go.Proofs.Ytjpeedbabjaidaa.Pure
open Go.RowKit Go.Proofs.Ytjpeedbabjaidaa.PR Go.Proofs.YtjpeedbabjaidaaW.PrintWords Go.Proofs.YtjpeedbabjaidaaW.PrintLast
set_option linter.unusedVariables false
set_option linter.unusedSimpArgs false

abbrev Q := S27
theorem all_ev (x : ByteArray) (hx : x.size ≤ 1048576) : ∀ (m at_ : Nat) (l : List Q), x.size - at_ ≤ m → at_ ≤ x.size → l.length ≤ at_ →
    ∃ (L : List Q) (e : Nat), e ≤ x.size ∧ L.length ≤ x.size ∧ Ev (fun k => spec_l3All.l0 k x l (at_ : Int)) (L, (e : Int)) ∧ Ev (fun k => impl_readSegment.l0 k x l (at_ : Int)) (L, (e : Int)) := by
  intro m
  induction m with
  | zero =>
    intro at_ l hm ha hl
    have hno : ¬ hasRec (tailOf x at_) := fun h => by have h1 := h.2.1; rw [tail_size] at h1; omega
    have hsp := spec_read_ev x hx at_
    have him := impl_read_ev (tailOf x at_) (by rw [tail_size]; omega)
    rw [specV_no hno] at hsp
    rw [readV_no hno] at him
    have d1 : (0 : Int) ≤ (at_ : Int) := by omega
    have d2 : (at_ : Int) ≤ (x.size : Int) := by omega
    refine ⟨l, at_, ha, by omega, Ev.step (f := fun k => (spec_l3Read.f k x (at_ : Int)).bind fun bt184 => (if bt184.2.2.2.2 < 0 then (some ((l, (at_ : Int)) : List Q × Int)) else (if l.length < 3518437208883 then (spec_l3All.l0 k x (l ++ [(⟨bt184.1, bt184.2.1, bt184.2.2.1, bt184.2.2.2.1⟩ : Q)]) bt184.2.2.2.2) else (none)))) (fun k => by rw [spec_l3All.l0]) (Ev.bind hsp (Ev.now _)), Ev.step (f := fun k => (impl_readRecord.f k (tailOf x at_)).bind fun bt198 => (if bt198.2.2.2.2.2 = true then (if l.length < 3518437208883 then (impl_readSegment.l0 k x (l ++ [(⟨bt198.1, bt198.2.1, bt198.2.2.1, bt198.2.2.2.1⟩ : Q)]) (wrap64 ((at_ : Int) + bt198.2.2.2.2.1))) else (none)) else (some ((l, (at_ : Int)) : List Q × Int)))) (fun k => by rw [impl_readSegment.l0, if_pos d1, if_pos d2, Int.toNat_natCast]; rfl) (Ev.bind him ?_)⟩
    simp only [Bool.false_eq_true, if_false]
    exact Ev.now _
  | succ m ih =>
    intro at_ l hm ha hl
    have hsp := spec_read_ev x hx at_
    have him := impl_read_ev (tailOf x at_) (by rw [tail_size]; omega)
    have d1 : (0 : Int) ≤ (at_ : Int) := by omega
    have d2 : (at_ : Int) ≤ (x.size : Int) := by omega
    have ss : ∀ k, spec_l3All.l0 (k + 1) x l (at_ : Int) = (spec_l3Read.f k x (at_ : Int)).bind fun bt184 => (if bt184.2.2.2.2 < 0 then (some ((l, (at_ : Int)) : List Q × Int)) else (if l.length < 3518437208883 then (spec_l3All.l0 k x (l ++ [(⟨bt184.1, bt184.2.1, bt184.2.2.1, bt184.2.2.2.1⟩ : Q)]) bt184.2.2.2.2) else (none))) := fun k => by rw [spec_l3All.l0]
    have is : ∀ k, impl_readSegment.l0 (k + 1) x l (at_ : Int) = (impl_readRecord.f k (tailOf x at_)).bind fun bt198 => (if bt198.2.2.2.2.2 = true then (if l.length < 3518437208883 then (impl_readSegment.l0 k x (l ++ [(⟨bt198.1, bt198.2.1, bt198.2.2.1, bt198.2.2.2.1⟩ : Q)]) (wrap64 ((at_ : Int) + bt198.2.2.2.2.1))) else (none)) else (some ((l, (at_ : Int)) : List Q × Int))) := fun k => by
      rw [impl_readSegment.l0, if_pos d1, if_pos d2, Int.toNat_natCast]; rfl
    by_cases hr : hasRec (tailOf x at_)
    · have hn := nOf_le (tailOf x at_)
      have h2 := hr.2.1
      rw [tail_size] at h2
      rw [specV_yes hr] at hsp
      rw [readV_yes hr] at him
      obtain ⟨L, e, h3, h4, h5, h6⟩ := ih (at_ + 1 + nOf (tailOf x at_)) (l ++ [(⟨bt (partOf (tailOf x at_)) 0, bt (partOf (tailOf x at_)) 1, bt (partOf (tailOf x at_)) 2, dataOf (tailOf x at_)⟩ : Q)]) (by omega) (by omega) (by rw [List.length_append]; show l.length + 1 ≤ _; omega)
      have d3 : ¬ ((at_ + 1 + nOf (tailOf x at_) : Nat) : Int) < 0 := by omega
      have d4 : l.length < 3518437208883 := by omega
      refine ⟨L, e, h3, h4, Ev.step ss (Ev.bind hsp ?_), Ev.step is (Ev.bind him ?_)⟩
      · simp only [if_neg d3, if_pos d4]
        exact h5
      · simp only [if_true, if_pos d4]
        rw [wadd at_ (1 + nOf (tailOf x at_)) (by omega), ← Nat.add_assoc]
        exact h6
    · rw [specV_no hr] at hsp
      rw [readV_no hr] at him
      refine ⟨l, at_, ha, by omega, Ev.step ss (Ev.bind hsp (Ev.now _)), Ev.step is (Ev.bind him ?_)⟩
      simp only [Bool.false_eq_true, if_false]
      exact Ev.now _
theorem segs_ev (x : ByteArray) (hx : x.size ≤ 1048576) : ∃ (L : List Q) (e : Nat), e ≤ x.size ∧ L.length ≤ x.size ∧ Ev (fun k => spec_l3All.f k x) (L, (e : Int)) ∧ Ev (fun k => impl_readSegment.f k x) (L, (e : Int)) := all_ev x hx x.size 0 [] (by omega) (by omega) (by simp)

end Go.Proofs.Ytjpeedbabjaidaa.Pure

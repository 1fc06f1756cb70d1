/- The program's ReadRecord returns what the reference's returns: for all arguments, with no condition. -/
import Derived.Test.YtjpeedbabjaidaaPBx2
import Derived.Test.YtjpeedbabjaidaaPBx3
import Derived.Test.YtjpeedbabjaidaaPBx4
import Derived.Test.YtjpeedbabjaidaaPBx5
import Derived.Test.YtjpeedbabjaidaaReads
namespace Go.Proofs.Ytjpeedbabjaidaa.Pure
open Go.RowKit Go.Proofs.Ytjpeedbabjaidaa.PB Go.Proofs.YtjpeedbabjaidaaW.PrintWords Go.Proofs.YtjpeedbabjaidaaW.PrintLast
set_option linter.unusedVariables false
set_option linter.unusedSimpArgs false

theorem FnExactReadRecord : laws_FnExactReadRecord.Pure := by
  intro x a hx0 ha
  suffices h : Ev (fun k => laws_FnExactReadRecord.f k x a) true from h.rounds
  unfold laws_FnExactReadRecord.f
  by_cases c0 : (x.size : Int) > 1048576
  · simp only [if_pos c0]
    exact Ev.now _
  · simp only [if_neg c0]
    have hx : x.size ≤ 1048576 := by omega
    obtain ⟨q, h1, h2⟩ : ∃ q : Got, Ev (fun k => spec_ReadRecord.f k x a) q ∧ Ev (fun k => impl_ReadRecord.f k x a) q := by
      have st : ∀ b, b = true → Ev (fun k => spec_ReadRecord.j0 k x a b) (0, 0, 0, ⟨#[]⟩, 0, false) := fun b e => by subst e; exact Ev.stepc (fun k => by rw [spec_ReadRecord.j0, if_pos rfl])
      have it : ∀ b, b = true → Ev (fun k => impl_ReadRecord.j0 k x a b) (0, 0, 0, ⟨#[]⟩, 0, false) := fun b e => by subst e; exact Ev.stepc (fun k => by rw [impl_ReadRecord.j0, if_pos rfl])
      unfold spec_ReadRecord.f impl_ReadRecord.f
      simp only [within_eq, Option.bind_some]
      by_cases c1 : (x.size : Int) > 300
      · simp only [if_pos c1]
        exact ⟨_, st _ rfl, it _ rfl⟩
      · simp only [if_neg c1]
        by_cases c2 : a < 0
        · exact ⟨_, st _ (decide_eq_true c2), it _ (by rw [decide_eq_false (show ¬ 0 ≤ a by omega)]; rfl)⟩
        · obtain ⟨n, rfl⟩ := Int.eq_ofNat_of_zero_le (show 0 ≤ a by omega)
          rw [decide_eq_false c2]
          have hsp := spec_read_ev x hx n
          by_cases c3 : n ≤ x.size
          · rw [decide_eq_true (show (0 : Int) ≤ (n : Int) by omega), decide_eq_true (show (n : Int) ≤ (x.size : Int) by omega)]
            have him := impl_read_ev (tailOf x n) (by rw [tail_size]; omega)
            have d1 : (0 : Int) ≤ (n : Int) := by omega
            have d2 : (n : Int) ≤ (x.size : Int) := by omega
            have is : ∀ k, impl_ReadRecord.j0 (k + 1) x (n : Int) (!(true && true)) = (impl_readRecord.f k (tailOf x n)).bind fun bt160 => (if bt160.2.2.2.2.2 = true then (some ((bt160.1, bt160.2.1, bt160.2.2.1, bt160.2.2.2.1, wrap64 ((n : Int) + bt160.2.2.2.2.1), true) : Got)) else (some (0, 0, 0, (⟨#[]⟩ : ByteArray), 0, false))) := fun k => by
              rw [impl_ReadRecord.j0, if_neg (by decide), if_pos d1, if_pos d2, Int.toNat_natCast]
              rfl
            have ss : ∀ k, spec_ReadRecord.j0 (k + 1) x (n : Int) false = (spec_l3Read.f k x (n : Int)).bind fun bt160 => (if bt160.2.2.2.2 < 0 then (some ((0, 0, 0, (⟨#[]⟩ : ByteArray), 0, false) : Got)) else (some (bt160.1, bt160.2.1, bt160.2.2.1, bt160.2.2.2.1, bt160.2.2.2.2, true))) := fun k => by
              rw [spec_ReadRecord.j0, if_neg (by decide)]
            have hn := nOf_le (tailOf x n)
            by_cases hr : hasRec (tailOf x n)
            · rw [specV_yes hr] at hsp
              rw [readV_yes hr] at him
              refine ⟨(bt (partOf (tailOf x n)) 0, bt (partOf (tailOf x n)) 1, bt (partOf (tailOf x n)) 2, dataOf (tailOf x n), ((n + 1 + nOf (tailOf x n) : Nat) : Int), true), Ev.step ss (Ev.bind hsp ?_), Ev.step is (Ev.bind him ?_)⟩
              · have d3 : ¬ ((n + 1 + nOf (tailOf x n) : Nat) : Int) < 0 := by omega
                simp only [if_neg d3]
                exact Ev.now _
              · simp only [if_true]
                rw [wadd n (1 + nOf (tailOf x n)) (by omega), Nat.add_assoc]
                exact Ev.now _
            · rw [specV_no hr] at hsp
              rw [readV_no hr] at him
              refine ⟨(0, 0, 0, ⟨#[]⟩, 0, false), Ev.step ss (Ev.bind hsp ?_), Ev.step is (Ev.bind him ?_)⟩
              · exact Ev.now _
              · exact Ev.now _
          · refine ⟨(0, 0, 0, ⟨#[]⟩, 0, false), Ev.step (fun k => by rw [spec_ReadRecord.j0, if_neg (by decide)]) (Ev.bind hsp ?_), it _ (by rw [decide_eq_true (show (0 : Int) ≤ (n : Int) by omega), decide_eq_false (show ¬ (n : Int) ≤ (x.size : Int) by omega)]; rfl)⟩
            rw [specV_no (fun h => by have h1 := h.2.1; rw [tail_size] at h1; omega)]
            exact Ev.now _
    refine Ev.bind h1 (Ev.bind h2 ?_)
    unfold laws_eqRecord.f
    simp only [if_true, Option.bind_some, bne_self_eq_false, Bool.false_eq_true, if_false]
    exact Ev.now _

end Go.Proofs.Ytjpeedbabjaidaa.Pure

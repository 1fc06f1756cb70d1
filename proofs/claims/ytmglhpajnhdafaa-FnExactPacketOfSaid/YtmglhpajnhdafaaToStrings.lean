/- Plain lemmas on what the printed functions answer: numbers and lists alone. -/
import Derived.Test.YtmglhpajnhdafaaPPx1
import Derived.Test.YtmglhpajnhdafaaStringS
namespace Go.Proofs.Ytmglhpajnhdafaa.Pure
open Go.RowKit Go.Proofs.Ytmglhpajnhdafaa.PP Go.Proofs.YtmglhpajnhdafaaW.PrintWords Go.Proofs.YtmglhpajnhdafaaW.PrintLast
set_option linter.unusedVariables false
set_option linter.unusedSimpArgs false

theorem toStringS_l0 (l : List ByteArray) (hb : l.length ≤ 1048576) : ∀ (d i : Nat), i + d = l.length →
    Ev (fun k => laws_toStringS.l0 k l (l.take i ++ List.replicate d (⟨#[]⟩ : ByteArray)) (i : Int)) l
  | 0, i, h => Ev.stepc (fun k => by
      simp only [laws_toStringS.l0]
      rw [if_neg (by omega), List.take_of_length_le (by omega)]
      simp)
  | d + 1, i, h => by
    have ih := toStringS_l0 l hb d (i + 1) (by omega)
    refine Ev.step (f := fun k => laws_toStringS.l0 k l (l.take (i + 1) ++ List.replicate d (⟨#[]⟩ : ByteArray)) ((i + 1 : Nat) : Int)) (fun k => ?_) ih
    simp only [laws_toStringS.l0]
    have hl : (l.take i).length = i := by rw [List.length_take]; omega
    have e : (l.take i ++ List.replicate (d + 1) (⟨#[]⟩ : ByteArray)).set (i : Int).toNat (rdOf ByteArray.empty l (i : Int)) = l.take (i + 1) ++ List.replicate d (⟨#[]⟩ : ByteArray) := by
      have := set_lenT (l.take i) (⟨#[]⟩ : ByteArray) (rdOf ByteArray.empty l (i : Int)) (List.replicate d (⟨#[]⟩ : ByteArray))
      rw [hl] at this
      rw [List.replicate_succ, Int.toNat_natCast, this, take_rdT l i (by omega)]
      simp
    rw [if_pos (by omega), if_pos (by omega), if_pos (by simp; omega), e, wnat (by omega)]
/-- toStringS copies a list -/
theorem toStringS_ev (l : List ByteArray) (hb : l.length ≤ 1048576) : Ev (fun k => laws_toStringS.f k l) l := by
  have h := toStringS_l0 l hb l.length 0 (by omega)
  have h1 : (0 : Int) ≤ (l.length : Int) := by omega
  have h2 : ((l.length : Int) : Int).toNat ≤ 17592186044416 := by omega
  unfold laws_toStringS.f
  simp only [if_pos h1, if_pos h2]
  simpa using h

end Go.Proofs.Ytmglhpajnhdafaa.Pure

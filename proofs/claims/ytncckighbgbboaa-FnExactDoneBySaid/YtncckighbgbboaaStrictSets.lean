/- Plain lemmas on what the printed functions answer: numbers and lists alone. -/
import Derived.Test.YtncckighbgbboaaPGx0
import Derived.Test.YtncckighbgbboaaNums
import Derived.Lib.SlicesCompact
namespace Go.Proofs.Ytncckighbgbboaa.Pure
open Go.RowKit Go.Proofs.Ytncckighbgbboaa.PG Go.Proofs.YtncckighbgbboaaW.PrintWords Go.Proofs.YtncckighbgbboaaW.PrintLast
set_option linter.unusedVariables false
set_option linter.unusedSimpArgs false

/-- two lists that rise and hold the same numbers are one -/
theorem strict_ext : ∀ (a b : List Int), a.Pairwise (· < ·) → b.Pairwise (· < ·) → (∀ x, x ∈ a ↔ x ∈ b) → a = b
  | [], [], _, _, _ => rfl
  | [], y :: b, _, _, h => absurd ((h y).2 (by simp)) (by simp)
  | x :: a, [], _, _, h => absurd ((h x).1 (by simp)) (by simp)
  | x :: a, y :: b, ha, hb, h => by
    rw [List.pairwise_cons] at ha hb
    have e : x = y := by
      rcases List.mem_cons.1 ((h x).1 (by simp)) with h1 | h1
      · exact h1
      · rcases List.mem_cons.1 ((h y).2 (by simp)) with h2 | h2
        · exact h2.symm
        · have h3 := ha.1 y h2
          have h4 := hb.1 x h1
          omega
    subst e
    congr 1
    refine strict_ext a b ha.2 hb.2 (fun z => ⟨fun hz => ?_, fun hz => ?_⟩)
    · rcases List.mem_cons.1 ((h z).1 (by simp [hz])) with e | e
      · have := ha.1 z hz
        omega
      · exact e
    · rcases List.mem_cons.1 ((h z).2 (by simp [hz])) with e | e
      · have := hb.1 z hz
        omega
      · exact e
/-- a number put into a list that rises -/
def putV : List Int → Int → List Int
  | [], n => [n]
  | x :: l, n => if x < n then x :: putV l n else if x = n then x :: l else n :: x :: l
theorem mem_putV (n z : Int) : ∀ l : List Int, z ∈ putV l n ↔ z = n ∨ z ∈ l
  | [] => by simp [putV]
  | x :: l => by
    rw [putV]
    by_cases c : x < n
    · rw [if_pos c, List.mem_cons, mem_putV n z l, List.mem_cons]
      exact ⟨fun h => h.elim (fun h => .inr (.inl h)) (fun h => h.elim .inl (fun h => .inr (.inr h))), fun h => h.elim (fun h => .inr (.inl h)) (fun h => h.elim .inl (fun h => .inr (.inr h)))⟩
    · rw [if_neg c]
      by_cases c2 : x = n
      · rw [if_pos c2]
        subst c2
        simp
      · rw [if_neg c2, List.mem_cons]
theorem strict_putV (n : Int) : ∀ l : List Int, l.Pairwise (· < ·) → (putV l n).Pairwise (· < ·)
  | [], _ => by simp [putV]
  | x :: l, h => by
    rw [List.pairwise_cons] at h
    rw [putV]
    by_cases c : x < n
    · rw [if_pos c, List.pairwise_cons]
      refine ⟨fun y hy => ?_, strict_putV n l h.2⟩
      rcases (mem_putV n y l).1 hy with e | e
      · rw [e]; exact c
      · exact h.1 y e
    · rw [if_neg c]
      by_cases c2 : x = n
      · rw [if_pos c2, List.pairwise_cons]
        exact h
      · rw [if_neg c2, List.pairwise_cons, List.pairwise_cons]
        refine ⟨fun y hy => ?_, h⟩
        rcases List.mem_cons.1 hy with e | e
        · rw [e]; omega
        · have := h.1 y e
          omega
theorem putV_len (n : Int) : ∀ l : List Int, (putV l n).length ≤ l.length + 1
  | [] => by simp [putV]
  | x :: l => by
    rw [putV]
    have := putV_len n l
    by_cases c : x < n
    · rw [if_pos c, List.length_cons, List.length_cons]; omega
    · rw [if_neg c]
      by_cases c2 : x = n
      · rw [if_pos c2]; omega
      · rw [if_neg c2, List.length_cons]; omega
theorem mem_puts (z : Int) : ∀ (xs out : List Int), z ∈ xs.foldl putV out ↔ z ∈ out ∨ z ∈ xs
  | [], out => by simp
  | x :: xs, out => by
    rw [List.foldl_cons, mem_puts z xs, mem_putV, List.mem_cons]
    exact ⟨fun h => h.elim (fun h => h.elim (fun h => .inr (.inl h)) .inl) (fun h => .inr (.inr h)), fun h => h.elim (fun h => .inl (.inr h)) (fun h => h.elim (fun h => .inl (.inl h)) .inr)⟩
theorem strict_puts : ∀ (xs out : List Int), out.Pairwise (· < ·) → (xs.foldl putV out).Pairwise (· < ·)
  | [], _, h => h
  | x :: xs, out, h => by
    rw [List.foldl_cons]
    exact strict_puts xs _ (strict_putV x out h)
theorem puts_len : ∀ (xs out : List Int), (xs.foldl putV out).length ≤ out.length + xs.length
  | [], _ => by simp
  | x :: xs, out => by
    rw [List.foldl_cons, List.length_cons]
    have h1 := puts_len xs (putV out x)
    have h2 := putV_len x out
    omega
theorem compact_upTo (zs : List Int) (h : zs.Pairwise (· ≤ ·)) : ∀ m, m ≤ zs.length → (Lib.compactUpTo zs.toArray m).Pairwise (· < ·) ∧ ∀ x, x ∈ Lib.compactUpTo zs.toArray m ↔ x ∈ zs.take m
  | 0, _ => by simp [Lib.compactUpTo]
  | m + 1, hm => by
    obtain ⟨h1, h2⟩ := compact_upTo zs h m (by omega)
    have hml : m < zs.length := by omega
    have eg : zs.toArray[m]! = zs[m] := by simp [hml]
    rw [Lib.compactUpTo_succ, List.take_succ_eq_append_getElem hml]
    by_cases hk : m = 0 ∨ zs.toArray[m]! ≠ zs.toArray[m - 1]!
    · have ek : Lib.keeps zs.toArray m = true := by simp only [Lib.keeps, decide_eq_true_eq]; exact hk
      rw [ek, if_pos rfl, eg]
      refine ⟨?_, fun x => by rw [List.mem_append, List.mem_append, h2 x]⟩
      rw [List.pairwise_append]
      refine ⟨h1, by simp, fun a ha b hb => ?_⟩
      rw [List.mem_singleton] at hb
      subst hb
      have ha' := (h2 a).1 ha
      obtain ⟨i, hi, e⟩ := List.mem_take_iff_getElem.1 ha'
      have hi2 : i < m := by omega
      rcases hk with hk | hk
      · omega
      · have eg1 : zs.toArray[m - 1]! = zs[m - 1]'(by omega) := by simp [show m - 1 < zs.length by omega]
        rw [eg, eg1] at hk
        have p1 : zs[m - 1]'(by omega) ≤ zs[m] := List.pairwise_iff_getElem.1 h (m - 1) m (by omega) hml (by omega)
        have p2 : zs[i]'(by omega) ≤ zs[m - 1]'(by omega) := by
          by_cases c : i = m - 1
          · subst c; omega
          · exact List.pairwise_iff_getElem.1 h i (m - 1) (by omega) (by omega) (by omega)
        rw [← e]
        omega
    · have ek : Lib.keeps zs.toArray m = false := by simp only [Lib.keeps, decide_eq_false_iff_not]; exact hk
      rw [ek, if_neg (by decide), List.append_nil]
      refine ⟨h1, fun x => ?_⟩
      rw [List.mem_append, h2 x, List.mem_singleton]
      refine ⟨.inl, fun h3 => h3.elim id (fun h3 => ?_)⟩
      have hm0 : m ≠ 0 := fun e => hk (.inl e)
      have e1 : zs.toArray[m]! = zs.toArray[m - 1]! := by
        by_cases c : zs.toArray[m]! = zs.toArray[m - 1]!
        · exact c
        · exact absurd (.inr c) hk
      have eg1 : zs.toArray[m - 1]! = zs[m - 1]'(by omega) := by simp [show m - 1 < zs.length by omega]
      rw [eg, eg1] at e1
      rw [h3, e1]
      exact List.mem_take_iff_getElem.2 ⟨m - 1, by omega, rfl⟩
/-- sorted and every number once -/
theorem sortu_set (zs : List Int) : (Lib.compact (zs.mergeSort fun a b => decide (a ≤ b))).Pairwise (· < ·) ∧ ∀ x, x ∈ Lib.compact (zs.mergeSort fun a b => decide (a ≤ b)) ↔ x ∈ zs := by
  have hp : (zs.mergeSort fun a b => decide (a ≤ b)).Pairwise (· ≤ ·) := by
    have h := List.pairwise_mergeSort (le := fun a b : Int => decide (a ≤ b)) (by intro a b c; simp only [decide_eq_true_eq]; omega) (by intro a b; simp only [Bool.or_eq_true, decide_eq_true_eq]; omega) zs
    exact h.imp (by intro a b hab; simpa using hab)
  obtain ⟨h1, h2⟩ := compact_upTo _ hp _ (Nat.le_refl _)
  refine ⟨h1, fun x => ?_⟩
  unfold Lib.compact
  rw [h2 x, List.take_length, List.mem_mergeSort]

end Go.Proofs.Ytncckighbgbboaa.Pure

/- Plain lemmas on what the printed functions answer: numbers and lists alone. -/
import Derived.Test.YthhnmdemmogjaaaPHx0
import Derived.Test.YthhnmdemmogjaaaPHx5
import Derived.Test.YthhnmdemmogjaaaPHx7
import Derived.Test.YthhnmdemmogjaaaSpecPut
import Derived.Test.YthhnmdemmogjaaaLayerNums
import Derived.Test.YthhnmdemmogjaaaGoodFacts
import Derived.Test.YthhnmdemmogjaaaFindV
namespace Go.Proofs.Ythhnmdemmogjaaa.Pure
open Go.RowKit Go.Proofs.Ythhnmdemmogjaaa.PH Go.Proofs.YthhnmdemmogjaaaW.PrintWords Go.Proofs.YthhnmdemmogjaaaW.PrintLast
set_option linter.unusedVariables false
set_option linter.unusedSimpArgs false

/-- the blocks of the layers behind a mark, as the reference puts them in -/
def dirtyV (mark : Int) : List Int → List S51 → List Int
  | out, [] => out
  | out, y :: l => dirtyV mark (if y.f0 > mark then y.f1.foldl putV out else out) l
theorem strict_dirtyV (mark : Int) : ∀ (l : List S51) (out : List Int), out.Pairwise (· < ·) → (dirtyV mark out l).Pairwise (· < ·)
  | [], _, h => h
  | y :: l, out, h => by
    rw [dirtyV]
    refine strict_dirtyV mark l _ ?_
    split
    · exact strict_puts _ _ h
    · exact h
theorem mem_dirtyV (mark z : Int) : ∀ (l : List S51) (out : List Int), z ∈ dirtyV mark out l ↔ z ∈ out ∨ ∃ y ∈ l, y.f0 > mark ∧ z ∈ y.f1
  | [], out => by simp [dirtyV]
  | y :: l, out => by
    rw [dirtyV, mem_dirtyV mark z l]
    by_cases c : y.f0 > mark
    · rw [if_pos c, mem_puts]
      constructor
      · rintro ((h | h) | ⟨x, hx, h⟩)
        · exact .inl h
        · exact .inr ⟨y, by simp, c, h⟩
        · exact .inr ⟨x, by simp [hx], h⟩
      · rintro (h | ⟨x, hx, h1, h2⟩)
        · exact .inl (.inl h)
        · rcases List.mem_cons.1 hx with e | e
          · subst e; exact .inl (.inr h2)
          · exact .inr ⟨x, e, h1, h2⟩
    · rw [if_neg c]
      constructor
      · rintro (h | ⟨x, hx, h⟩)
        · exact .inl h
        · exact .inr ⟨x, by simp [hx], h⟩
      · rintro (h | ⟨x, hx, h1, h2⟩)
        · exact .inl h
        · rcases List.mem_cons.1 hx with e | e
          · subst e; exact absurd h1 c
          · exact .inr ⟨x, e, h1, h2⟩
theorem dirtyV_len (mark : Int) : ∀ (l : List S51) (out : List Int), (∀ y ∈ l, y.f1.length ≤ 1048576) → (dirtyV mark out l).length ≤ out.length + l.length * 1048576
  | [], _, _ => by simp [dirtyV]
  | y :: l, out, h => by
    rw [dirtyV, List.length_cons]
    have h1 := dirtyV_len mark l (if y.f0 > mark then y.f1.foldl putV out else out) (fun x hx => h x (by simp [hx]))
    have h2 := h y (by simp)
    have h3 : (if y.f0 > mark then y.f1.foldl putV out else out).length ≤ out.length + 1048576 := by
      split
      · have := puts_len y.f1 out
        omega
      · omega
    omega
theorem specDirty_l1 (mark : Int) (x11 : List S51) (x12 x13 : Int) (xs : List Int) (hx : xs.length ≤ 1048576) {R : List Int} : ∀ (d i : Nat) (out : List Int), i + d = xs.length → out.length + d ≤ 1099511627776 →
    Ev (fun k => spec_l15Dirty.l0 k mark ((xs.drop i).foldl putV out) x11 x12 (wrap64 (x13 + 1))) R → Ev (fun k => spec_l15Dirty.l1 k mark out x11 x12 x13 xs (xs.length : Int) (i : Int)) R
  | 0, i, out, h, hb, hr => by
    rw [show xs.drop i = [] from List.drop_eq_nil_of_le (by omega), List.foldl_nil] at hr
    refine Ev.step (fun k => ?_) hr
    simp only [spec_l15Dirty.l1]
    rw [if_neg (by omega)]
  | d + 1, i, out, h, hb, hr => by
    rw [drop_rd xs i (by omega), List.foldl_cons] at hr
    have hl := putV_len (rd xs (i : Int)) out
    have ih := specDirty_l1 mark x11 x12 x13 xs hx d (i + 1) (putV out (rd xs (i : Int))) (by omega) (by omega) hr
    refine Ev.step (f := fun k => (spec_l1Put.f k out (rd xs (i : Int))).bind fun t => spec_l15Dirty.l1 k mark t x11 x12 x13 xs (xs.length : Int) ((i + 1 : Nat) : Int)) (fun k => ?_) (Ev.bind (specPut_ev out _ (by omega)) ih)
    simp only [spec_l15Dirty.l1]
    rw [if_pos (by omega), if_pos (by omega), if_pos (by omega), wnat (by omega)]
theorem specDirty_l0 (mark : Int) (l : List S51) (hb : l.length ≤ 8) (hg : ∀ y ∈ l, y.f1.length ≤ 1048576) : ∀ (d i : Nat) (out : List Int), i + d = l.length → out.length + d * 1048576 ≤ 1099511627776 →
    Ev (fun k => spec_l15Dirty.l0 k mark out l (l.length : Int) (i : Int)) (dirtyV mark out (l.drop i))
  | 0, i, out, h, ho => Ev.stepc (fun k => by
      simp only [spec_l15Dirty.l0]
      rw [if_neg (by omega), show l.drop i = [] from List.drop_eq_nil_of_le (by omega)]
      rfl)
  | d + 1, i, out, h, ho => by
    have hy := hg _ (mem_rdL l i (by omega))
    rw [drop_rdL l i (by omega), dirtyV]
    by_cases c : (rd_T51 l (i : Int)).f0 > mark
    · rw [if_pos c]
      have hl := puts_len (rd_T51 l (i : Int)).f1 out
      have ih := specDirty_l0 mark l hb hg d (i + 1) ((rd_T51 l (i : Int)).f1.foldl putV out) (by omega) (by omega)
      rw [← wnat (by omega)] at ih
      refine Ev.step (fun k => ?_) (specDirty_l1 mark l (l.length : Int) (i : Int) (rd_T51 l (i : Int)).f1 hy _ 0 out (Nat.zero_add _) (by omega) (by rw [List.drop_zero]; exact ih))
      simp only [spec_l15Dirty.l0]
      rw [if_pos (by omega), if_pos (by omega), if_pos (by omega), if_pos c]
      rfl
    · rw [if_neg c]
      have ih := specDirty_l0 mark l hb hg d (i + 1) out (by omega) (Nat.le_trans (Nat.add_le_add_left (Nat.mul_le_mul_right _ (Nat.le_succ d)) _) ho)
      refine Ev.step (fun k => ?_) ih
      simp only [spec_l15Dirty.l0]
      rw [if_pos (by omega), if_pos (by omega), if_pos (by omega), if_neg c, wnat (by omega)]
theorem specDirty_ev (mark : Int) (l : List S51) (hb : l.length ≤ 8) (hg : ∀ y ∈ l, y.f1.length ≤ 1048576) : Ev (fun k => spec_l15Dirty.f k l mark) (dirtyV mark [] l) := by
  have h := specDirty_l0 mark l hb hg l.length 0 [] (by omega) (by simp only [List.length_nil]; omega)
  unfold spec_l15Dirty.f
  simpa using h
theorem ris_pairwise : ∀ l : List Int, ris l = true → l.Pairwise (· < ·)
  | [], _ => by simp
  | [_], _ => by simp
  | a :: b :: l, h => by
    rw [ris, Bool.and_eq_true, decide_eq_true_eq] at h
    have ih := ris_pairwise (b :: l) h.2
    rw [List.pairwise_cons]
    refine ⟨fun y hy => ?_, ih⟩
    rcases List.mem_cons.1 hy with e | e
    · rw [e]; exact h.1
    · have := (List.pairwise_cons.1 ih).1 y e
      omega
theorem findV_at (a : Int) : ∀ (l : List S51) (i : Nat) (j : Nat), findV a l i = ((i + j : Nat) : Int) → ∃ h : j < l.length, (l[j]'h).f0 = a
  | [], i, j, h => by
    simp only [findV] at h
    omega
  | x :: l, i, j, h => by
    simp only [findV] at h
    by_cases c : x.f0 = a
    · rw [if_pos c] at h
      have : j = 0 := by omega
      subst this
      exact ⟨by simp, c⟩
    · rw [if_neg c] at h
      have b := findV_bd a l (i + 1)
      obtain ⟨j', rfl⟩ : ∃ j', j = j' + 1 := ⟨j - 1, by omega⟩
      obtain ⟨h1, h2⟩ := findV_at a l (i + 1) j' (by rw [h]; congr 1; omega)
      exact ⟨by simpa using h1, by simpa using h2⟩
/-- behind the layer with a mark stand those with greater marks, and they alone -/
theorem behind (mark : Int) (l : List S51) (hr : ris (l.map (·.f0)) = true) (j : Nat) (hj : findV mark l 0 = (j : Int)) (y : S51) : y ∈ l.drop (j + 1) ↔ y ∈ l ∧ y.f0 > mark := by
  obtain ⟨h1, h2⟩ := findV_at mark l 0 j (by simpa using hj)
  have hp := ris_pairwise _ hr
  rw [List.pairwise_map] at hp
  have hg := List.pairwise_iff_getElem.1 hp
  constructor
  · intro hy
    obtain ⟨i, hi, e⟩ := List.mem_drop_iff_getElem.1 hy
    refine ⟨List.mem_of_mem_drop hy, ?_⟩
    have := hg j (j + 1 + i) h1 (by omega) (by omega)
    rw [← e]
    omega
  · rintro ⟨hy, hm⟩
    obtain ⟨i, hi, e⟩ := List.mem_iff_getElem.1 hy
    have hij : j < i := by
      by_cases c : j < i
      · exact c
      · by_cases c2 : i = j
        · subst c2
          rw [e] at h2
          omega
        · have := hg i j hi h1 (by omega)
          rw [e] at this
          omega
    exact List.mem_drop_iff_getElem.2 ⟨i - (j + 1), by omega, by rw [← e]; congr 1; omega⟩
theorem cat_eq : ∀ (l : List S51) (x : List Int), (∀ y ∈ l, y.f1.length ≤ 1048576) → x.length + l.length * 1048576 ≤ 17592186044416 → impl_dirty.cat x l = some (x ++ l.flatMap (·.f1)) ∧ (x ++ l.flatMap (·.f1)).length ≤ x.length + l.length * 1048576
  | [], x, _, _ => by simp [impl_dirty.cat]
  | y :: l, x, h, hb => by
    have h2 := h y (by simp)
    rw [List.length_cons] at hb
    obtain ⟨h3, h4⟩ := cat_eq l (x ++ y.f1) (fun z hz => h z (by simp [hz])) (by rw [List.length_append]; omega)
    rw [impl_dirty.cat, if_pos (by omega), h3, List.flatMap_cons, List.append_assoc]
    rw [List.append_assoc] at h4
    have h5 : (x ++ y.f1).length = x.length + y.f1.length := List.length_append
    refine ⟨rfl, ?_⟩
    rw [List.length_cons]
    omega
/-- what the program sorts is what the reference puts in -/
theorem dirty_eq (mark : Int) (l : List S51) (hb : l.length ≤ 8) (hg : ∀ y ∈ l, y.f1.length ≤ 1048576) (hr : ris (l.map (·.f0)) = true) (j : Nat) (hj : findV mark l 0 = (j : Int)) : impl_dirty.f (l.drop (j + 1)) = some (dirtyV mark [] l) := by
  obtain ⟨h1, h2⟩ := cat_eq (l.drop (j + 1)) [] (fun y hy => hg y (List.mem_of_mem_drop hy)) (by rw [List.length_drop, List.length_nil]; omega)
  unfold impl_dirty.f
  rw [h1, Option.bind_some, if_pos (by rw [List.length_drop, List.length_nil] at h2; omega), List.nil_append]
  congr 1
  obtain ⟨s1, s2⟩ := sortu_set ((l.drop (j + 1)).flatMap (·.f1))
  refine strict_ext _ _ s1 (strict_dirtyV mark l [] List.Pairwise.nil) (fun z => ?_)
  rw [s2 z, mem_dirtyV, List.mem_flatMap]
  constructor
  · rintro ⟨y, hy, hz⟩
    have := (behind mark l hr j hj y).1 hy
    exact .inr ⟨y, this.1, this.2, hz⟩
  · rintro (h | ⟨y, hy, hm, hz⟩)
    · simp at h
    · exact ⟨y, (behind mark l hr j hj y).2 ⟨hy, hm⟩, hz⟩

end Go.Proofs.Ythhnmdemmogjaaa.Pure

/- Plain lemmas on what the printed functions answer: numbers and lists alone. -/
import Derived.Test.YthhnmdemmogjaaaPHx3
import Derived.Test.YthhnmdemmogjaaaSteps
namespace Go.Proofs.Ythhnmdemmogjaaa.Pure
open Go.RowKit Go.Proofs.Ythhnmdemmogjaaa.PH Go.Proofs.YthhnmdemmogjaaaW.PrintWords Go.Proofs.YthhnmdemmogjaaaW.PrintLast
set_option linter.unusedVariables false
set_option linter.unusedSimpArgs false

theorem markText_l0 : ∀ (n : Nat) (x : Int) (s : ByteArray), 0 ≤ x → x < 2 ^ n → s.size + 2 * n ≤ 1000 → ∃ r, ∀ k, n + 1 ≤ k → laws_markText.l0 k x s = some r
  | 0, x, s, h0, h1, hs => by
    refine ⟨(⟨#[109]⟩ : ByteArray) ++ s, fun k hk => ?_⟩
    obtain ⟨k, rfl⟩ : ∃ m, k = m + 1 := ⟨k - 1, by omega⟩
    have : x = 0 := by simp at h1; omega
    simp only [laws_markText.l0]
    rw [if_neg (by omega), if_pos (by omega)]
  | n + 1, x, s, h0, h1, hs => by
    by_cases c : x > 0
    · have e : Int.tdiv x 10 = x / 10 := Int.tdiv_eq_ediv_of_nonneg h0
      by_cases big : x ≤ 9223372036854775807
      · have e2 : wrap64 (x / 10) = x / 10 := w64 (by omega) (by omega)
        have h2 : x / 10 < 2 ^ n := by
          have : (2 : Int) ^ (n + 1) = 2 * 2 ^ n := by rw [Int.pow_succ]; omega
          omega
        have hsz : (strOfNums ([(wrap64 (48 + (Int.tmod x 10))) % 256] : List Int)).size = 1 := by rw [strOfNums_size]; rfl
        obtain ⟨r, hr⟩ := markText_l0 n (x / 10) ((strOfNums ([(wrap64 (48 + (Int.tmod x 10))) % 256] : List Int)) ++ s) (by omega) h2 (by rw [ByteArray.size_append, hsz]; omega)
        refine ⟨r, fun k hk => ?_⟩
        obtain ⟨k, rfl⟩ : ∃ m, k = m + 1 := ⟨k - 1, by omega⟩
        simp only [laws_markText.l0]
        rw [if_pos c, Option.bind_some, if_pos (by rw [hsz]; omega), e, e2]
        exact hr k (by omega)
      · -- the number goes round: it is whatever it is, and smaller still
        have hw : ∃ y : Int, wrap64 (Int.tdiv x 10) = y := ⟨_, rfl⟩
        have e2 : x / 10 < 2 ^ n := by
          have : (2 : Int) ^ (n + 1) = 2 * 2 ^ n := by rw [Int.pow_succ]; omega
          omega
        have hsz : (strOfNums ([(wrap64 (48 + (Int.tmod x 10))) % 256] : List Int)).size = 1 := by rw [strOfNums_size]; rfl
        by_cases c2 : wrap64 (x / 10) < 0
        · refine ⟨(⟨#[109]⟩ : ByteArray) ++ ((strOfNums ([(wrap64 (48 + (Int.tmod x 10))) % 256] : List Int)) ++ s), fun k hk => ?_⟩
          obtain ⟨k, rfl⟩ : ∃ m, k = m + 2 := ⟨k - 2, by omega⟩
          simp only [laws_markText.l0]
          rw [if_pos c, Option.bind_some, if_pos (by rw [hsz]; omega), e, if_neg (by omega), if_pos (by rw [ByteArray.size_append, hsz]; omega)]
        · have hle : wrap64 (x / 10) ≤ x / 10 := by unfold wrap64 at c2 ⊢; omega
          obtain ⟨r, hr⟩ := markText_l0 n (wrap64 (x / 10)) ((strOfNums ([(wrap64 (48 + (Int.tmod x 10))) % 256] : List Int)) ++ s) (by omega) (by omega) (by rw [ByteArray.size_append, hsz]; omega)
          refine ⟨r, fun k hk => ?_⟩
          obtain ⟨k, rfl⟩ : ∃ m, k = m + 1 := ⟨k - 1, by omega⟩
          simp only [laws_markText.l0]
          rw [if_pos c, Option.bind_some, if_pos (by rw [hsz]; omega), e]
          exact hr k (by omega)
    · refine ⟨(⟨#[109]⟩ : ByteArray) ++ s, fun k hk => ?_⟩
      obtain ⟨k, rfl⟩ : ∃ m, k = m + 1 := ⟨k - 1, by omega⟩
      simp only [laws_markText.l0]
      rw [if_neg c, if_pos (by omega)]
theorem markText_some (m : Int) : ∃ r, m ≤ 4611686018427387904 → ∀ k, 70 ≤ k → laws_markText.f k m = some r := by
  by_cases h : m ≤ 4611686018427387904
  · unfold laws_markText.f
    by_cases c : m ≤ 0
    · exact ⟨_, fun _ k _ => if_pos c⟩
    · obtain ⟨r, hr⟩ := markText_l0 64 m ⟨#[]⟩ (by omega) (by omega) (by decide)
      exact ⟨r, fun _ k hk => by rw [if_neg c]; exact hr k (by omega)⟩
  · exact ⟨⟨#[]⟩, fun h' => absurd h' h⟩
/-- the text of a number, as markText makes it -/
noncomputable def mt (m : Int) : ByteArray := Classical.choose (markText_some m)
theorem mt_eq (m : Int) (h : m ≤ 4611686018427387904) (k : Nat) (hk : 70 ≤ k) : laws_markText.f k m = some (mt m) := Classical.choose_spec (markText_some m) h k hk

end Go.Proofs.Ythhnmdemmogjaaa.Pure

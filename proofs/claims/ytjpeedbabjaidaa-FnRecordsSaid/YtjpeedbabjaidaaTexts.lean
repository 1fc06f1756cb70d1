/- Plain lemmas on what the printed functions answer: numbers and lists alone. -/
import Derived.Test.YtjpeedbabjaidaaPRx2
import Derived.Test.YtjpeedbabjaidaaPRx3
import Derived.Test.YtjpeedbabjaidaaSums
import Derived.Lib.Strings
namespace Go.Proofs.Ytjpeedbabjaidaa.Pure
open Go.RowKit Go.Proofs.Ytjpeedbabjaidaa.PR Go.Proofs.YtjpeedbabjaidaaW.PrintWords Go.Proofs.YtjpeedbabjaidaaW.PrintLast
set_option linter.unusedVariables false
set_option linter.unusedSimpArgs false

def whereB (b c : Int) : Bool := (decide (1 ≤ c) && decide (c ≤ 4)) && (decide (0 ≤ b) && decide (b ≤ wrap64 (16 - c)))
def goodB (a b c : Int) (d : ByteArray) : Bool :=
  if a = 1 then whereB b c && ((d.size : Int) == wrap64 (2 * c)) else if a = 2 then whereB b c && (d.toList == ([] : List UInt8))
  else if a = 3 then (decide (0 ≤ b) && decide (b ≤ 200)) && (decide (c = 0) && (d.toList == ([] : List UInt8))) else false
theorem in_eq (a b c : Int) : spec_l1In.f a b c = some (decide (b ≤ a) && decide (a ≤ c)) := by
  unfold spec_l1In.f
  by_cases h : a ≥ b
  · rw [if_pos h, decide_eq_true (show b ≤ a from h)]; simp
  · rw [if_neg h, decide_eq_false (show ¬ b ≤ a from h)]; simp
theorem within_eq (a b c : Int) : impl_within.f a b c = some (decide (b ≤ a) && decide (a ≤ c)) := in_eq a b c
theorem where_eq (a b c : Int) (d : ByteArray) : spec_l3Where.f a b c d = some (whereB b c) := by
  unfold spec_l3Where.f whereB
  rw [in_eq, Option.bind_some, in_eq]
  cases (decide (1 ≤ c) && decide (c ≤ 4)) with
  | false => rfl
  | true => rfl
theorem isRun_eq (b c : Int) (h : 1 ≤ c) : impl_isRun.f b c = some (decide (0 ≤ b) && decide (b ≤ wrap64 (16 - c))) := by
  unfold impl_isRun.f
  by_cases h1 : b ≥ 0
  · rw [if_pos h1, if_pos h, decide_eq_true (show 0 ≤ b from h1)]; simp
  · rw [if_neg h1, decide_eq_false (show ¬ 0 ≤ b from h1)]; simp
theorem andIf (p q : Bool) : (if p = true then some q else some false) = some (p && q) := by cases p <;> rfl
theorem spec_good (a b c : Int) (d : ByteArray) : spec_GoodRecord.f a b c d = some (goodB a b c d) := by
  unfold spec_GoodRecord.f goodB
  simp only [where_eq, in_eq, Option.bind_some, andIf]
  by_cases h1 : a = 1
  · rw [if_pos h1, if_pos h1]
  · rw [if_neg h1, if_neg h1]
    by_cases h2 : a = 2
    · rw [if_pos h2, if_pos h2]
    · rw [if_neg h2, if_neg h2]
      by_cases h3 : a = 3
      · rw [if_pos h3, if_pos h3]
        by_cases h4 : c = 0
        · rw [if_pos h4, andIf, decide_eq_true h4, Bool.true_and]
        · rw [if_neg h4, andIf, decide_eq_false h4, Bool.false_and]
      · rw [if_neg h3, if_neg h3]
theorem impl_where (b c : Int) (q : Bool) : ((impl_within.f c 1 4).bind fun t => (if t = true then ((impl_isRun.f b c).bind fun t2 => (if t2 = true then some q else some false)) else some false)) = some (whereB b c && q) := by
  rw [within_eq, Option.bind_some]
  unfold whereB
  cases h : (decide (1 ≤ c) && decide (c ≤ 4)) with
  | false => rfl
  | true =>
    have h1 : 1 ≤ c := by simp at h; exact h.1
    rw [if_pos rfl, isRun_eq b c h1, Option.bind_some, andIf, Bool.true_and]
theorem impl_good (a b c : Int) (d : ByteArray) : impl_GoodRecord.f a b c d = some (goodB a b c d) := by
  unfold impl_GoodRecord.f goodB
  rw [impl_where, impl_where, within_eq, Option.bind_some]
  by_cases h1 : a = 1
  · rw [if_pos h1, if_pos h1]
  · rw [if_neg h1, if_neg h1]
    by_cases h2 : a = 2
    · rw [if_pos h2, if_pos h2]
    · rw [if_neg h2, if_neg h2]
      by_cases h3 : a = 3
      · rw [if_pos h3, if_pos h3]
        by_cases h4 : c = 0
        · rw [if_pos h4, andIf, decide_eq_true h4, Bool.true_and]
        · rw [if_neg h4, andIf, decide_eq_false h4, Bool.false_and]
      · rw [if_neg h3, if_neg h3]
theorem good_size {a b c : Int} {d : ByteArray} (h : goodB a b c d = true) : d.size ≤ 8 := by
  have nil : ∀ {d : ByteArray}, (d.toList == ([] : List UInt8)) = true → d.size = 0 := by
    intro d hd
    have h1 := Lib.toList_data d
    rw [beq_iff_eq.1 hd] at h1
    have h2 : d.data.toList.length = 0 := by rw [← h1]; rfl
    rw [Array.length_toList] at h2
    exact h2
  unfold goodB at h
  by_cases h1 : a = 1
  · rw [if_pos h1] at h
    simp only [whereB, Bool.and_eq_true, decide_eq_true_eq, beq_iff_eq] at h
    obtain ⟨⟨⟨p1, p2⟩, _⟩, p3⟩ := h
    rw [w64 (by omega) (by omega)] at p3
    omega
  · rw [if_neg h1] at h
    by_cases h2 : a = 2
    · rw [if_pos h2, Bool.and_eq_true] at h
      have := nil h.2
      omega
    · rw [if_neg h2] at h
      by_cases h3 : a = 3
      · rw [if_pos h3] at h
        simp only [Bool.and_eq_true] at h
        have := nil h.2.2
        omega
      · rw [if_neg h3] at h
        cases h
def zz : ByteArray := ⟨#[0, 0]⟩
def bodyV (a b c : Int) (d : ByteArray) : ByteArray := strOfNums [a % 256, b % 256, c % 256] ++ d
def sumN (t : ByteArray) : Nat := toN 0 t t.size
def withV (t : ByteArray) : ByteArray := t ++ strOfNums [(sumN (t ++ zz) : Int) / 256 % 256, (sumN (t ++ zz) : Int) % 256]
def textV (a b c : Int) (d : ByteArray) : ByteArray := strOfNums [((withV (bodyV a b c d)).size : Int) % 256] ++ withV (bodyV a b c d)
theorem str1 (x : Int) : (strOfNums [x]).size = 1 := rfl
theorem str2 (x y : Int) : (strOfNums [x, y]).size = 2 := rfl
theorem str3 (x y z : Int) : (strOfNums [x, y, z]).size = 3 := rfl
theorem zz_size : zz.size = 2 := rfl
theorem body_size (a b c : Int) (d : ByteArray) : (bodyV a b c d).size = 3 + d.size := by unfold bodyV; rw [ByteArray.size_append, str3]
theorem with_size (t : ByteArray) : (withV t).size = t.size + 2 := by unfold withV; rw [ByteArray.size_append, str2]
theorem text_size (a b c : Int) (d : ByteArray) : (textV a b c d).size = d.size + 6 := by unfold textV; rw [ByteArray.size_append, str1, with_size, body_size]; omega
theorem spec_with (t : ByteArray) (h : t.size ≤ 1000000) : Ev (fun k => spec_l1With.f k t) (withV t) := by
  unfold spec_l1With.f
  have h1 : t.size + 2 ≤ 9223372036854775807 := by omega
  simp only [if_pos h1]
  refine Ev.bind (l1On_ev 0 (t ++ zz) (by omega) (by rw [ByteArray.size_append, zz_size]; omega)) ?_
  have h2 : t.size + (strOfNums [((toN 0 (t ++ zz) (t ++ zz).size : Nat) : Int) / 256 % 256, ((toN 0 (t ++ zz) (t ++ zz).size : Nat) : Int) % 256]).size ≤ 9223372036854775807 := by rw [str2]; omega
  simp only [Option.bind_some, if_pos h2]
  exact Ev.now _
theorem impl_with (t : ByteArray) (h : t.size ≤ 1000000) : impl_withSum.f t = some (withV t) := by
  unfold impl_withSum.f impl_twoBytes.f
  have h1 : t.size + 2 ≤ 9223372036854775807 := by omega
  have e : strOfNums [(0 : Int) / 256 % 256, 0 % 256] = zz := rfl
  have h2 := sumOn_eq 0 (t ++ zz) (by omega) (by rw [ByteArray.size_append, zz_size]; omega)
  simp only [Option.bind_some]
  rw [e, zz_size, if_pos h1]
  rw [show impl_sumOn.f 0 (t ++ zz) = _ from h2]
  have h2 : t.size + (strOfNums [((toN 0 (t ++ zz) (t ++ zz).size : Nat) : Int) / 256 % 256, ((toN 0 (t ++ zz) (t ++ zz).size : Nat) : Int) % 256]).size ≤ 9223372036854775807 := by rw [str2]; omega
  simp only [Option.bind_some, if_pos h2]
  rfl
theorem spec_text (a b c : Int) (d : ByteArray) (h : d.size ≤ 100000) : Ev (fun k => spec_l3Text.f k a b c d) (textV a b c d) := by
  unfold spec_l3Text.f
  have h1 : (strOfNums [a % 256, b % 256, c % 256]).size + d.size ≤ 9223372036854775807 := by rw [str3]; omega
  simp only [Option.bind_some, if_pos h1]
  have hb := body_size a b c d
  refine Ev.bind (spec_with (bodyV a b c d) (by omega)) ?_
  have h2 : (strOfNums [((withV (bodyV a b c d)).size : Int) % 256]).size + (withV (bodyV a b c d)).size ≤ 9223372036854775807 := by rw [str1, with_size]; omega
  simp only [if_pos h2]
  exact Ev.now _
theorem impl_text (a b c : Int) (d : ByteArray) (h : d.size ≤ 100000) : impl_Record_text.f a b c d = some (textV a b c d) := by
  unfold impl_Record_text.f
  have h1 : (strOfNums [a % 256, b % 256, c % 256]).size + d.size ≤ 9223372036854775807 := by rw [str3]; omega
  simp only [Option.bind_some, if_pos h1]
  have hb := body_size a b c d
  rw [show impl_withSum.f (strOfNums [a % 256, b % 256, c % 256] ++ d) = _ from impl_with (bodyV a b c d) (by omega), Option.bind_some]
  have h2 : (strOfNums [((withV (bodyV a b c d)).size : Int) % 256]).size + (withV (bodyV a b c d)).size ≤ 9223372036854775807 := by rw [str1, with_size]; omega
  rw [if_pos h2]
  rfl

end Go.Proofs.Ytjpeedbabjaidaa.Pure

/- Plain lemmas on what the printed functions answer: numbers and lists alone. -/
import Derived.Test.YtmglhpajnhdafaaPPx1
import Derived.Test.YtmglhpajnhdafaaPPx2
import Derived.Test.YtmglhpajnhdafaaSources
import Derived.Lib.Repeat
namespace Go.Proofs.Ytmglhpajnhdafaa.Pure
open Go.RowKit Go.Proofs.Ytmglhpajnhdafaa.PP Go.Proofs.YtmglhpajnhdafaaW.PrintWords Go.Proofs.YtmglhpajnhdafaaW.PrintLast
set_option linter.unusedVariables false
set_option linter.unusedSimpArgs false

theorem u64n (n : Nat) (h : n ≤ 1048576) : IntKind.u64.wrap (n : Int) = (n : Int) := by
  simp only [IntKind.wrap, IntKind.bits, IntKind.signed]
  simp
  omega
theorem rep0 (n : Nat) (h : n ≤ 1000) : strings_Repeat.f (⟨#[0]⟩ : ByteArray) (n : Int) = some (strOfNums (List.replicate n 0)) := by
  unfold strings_Repeat.f
  rw [if_pos (by omega), if_pos (by omega), if_pos (by decide), Int.toNat_natCast]
  have h := Lib.repeatL_replicate 0 1 n
  rw [Nat.mul_one] at h
  have h2 : (⟨#[0]⟩ : ByteArray).data.toList = List.replicate 1 (0 : UInt8) := rfl
  rw [h2, h]
  unfold strOfNums
  rw [List.map_replicate]
  rfl
theorem xor_f (a b : ByteArray) (h : a.size = b.size) (h2 : a.size ≤ 1000) : ∃ r, impl_unlikeText.f a b = some r ∧ spec_l10Xor.f a b = some r ∧ r.size = a.size := by
  have c2 : a.size ≤ 1000000 := by omega
  refine ⟨strOfNums (impl_unlikeText.m a b a.size), ?_, ?_, ?_⟩
  · unfold impl_unlikeText.f
    rw [if_pos h, if_pos c2]
  · unfold spec_l10Xor.f
    rw [if_pos h, if_pos c2]
    rfl
  · rw [strOfNums_size, impl_unlikeText.m_length]
theorem sums_l0 (l : List ByteArray) (m : Int) (n : Nat) (hn : n ≤ 20) (hb : l.length ≤ 10) (hl : ∀ x ∈ l, x.size = n) : ∀ (d i : Nat) (t : ByteArray), i + d = l.length → t.size = n →
    ∃ r, Ev (fun k => impl_textOf.l0 k m t l (l.length : Int) (i : Int)) r ∧ Ev (fun k => spec_l10Sum.l0 k m t l (l.length : Int) (i : Int)) r
  | 0, i, t, h, ht => ⟨t, Ev.stepc (fun k => by rw [impl_textOf.l0, if_neg (by omega)]), Ev.stepc (fun k => by rw [spec_l10Sum.l0, if_neg (by omega)])⟩
  | d + 1, i, t, h, ht => by
    have hm : rdOf ByteArray.empty l (i : Int) ∈ l := by
      have e : rdOf ByteArray.empty l (i : Int) = l[i]'(by omega) := by
        rw [rdT_nat, List.getD_eq_getElem?_getD, List.getElem?_eq_getElem (by omega)]
        rfl
      rw [e]
      exact List.getElem_mem _
    have hs := hl _ hm
    have hu := u64n i (by omega)
    have hh : impl_has.f m (i : Int) = some ((Go.bits .and .i64 (shr .i64 m (i : Int)) 1) == 1) := by
      unfold impl_has.f
      rw [if_pos (by omega)]
    by_cases c : (Go.bits .and .i64 (shr .i64 m (i : Int)) 1) = 1
    · obtain ⟨r, h1, h2, h3⟩ := xor_f t (rdOf ByteArray.empty l (i : Int)) (by omega) (by omega)
      obtain ⟨q, h4, h5⟩ := sums_l0 l m n hn hb hl d (i + 1) r (by omega) (by omega)
      refine ⟨q, Ev.step (fun k => ?_) h4, Ev.step (fun k => ?_) h5⟩
      · rw [impl_textOf.l0, if_pos (by omega), if_pos (by omega), if_pos (by omega), hh, Option.bind_some, if_pos (beq_iff_eq.2 c), h1, Option.bind_some, wnat (by omega)]
      · rw [spec_l10Sum.l0, if_pos (by omega), if_pos (by omega), if_pos (by omega), hu, if_pos (by omega), if_pos c, h2, Option.bind_some, wnat (by omega)]
    · obtain ⟨q, h4, h5⟩ := sums_l0 l m n hn hb hl d (i + 1) t (by omega) ht
      refine ⟨q, Ev.step (fun k => ?_) h4, Ev.step (fun k => ?_) h5⟩
      · rw [impl_textOf.l0, if_pos (by omega), if_pos (by omega), if_pos (by omega), hh, Option.bind_some, if_neg (by simpa using c), wnat (by omega)]
      · rw [spec_l10Sum.l0, if_pos (by omega), if_pos (by omega), if_pos (by omega), hu, if_pos (by omega), if_neg c, wnat (by omega)]
theorem sums_both (l : List ByteArray) (m : Int) (hg : (manyB l && l.all (alikeB l)) = true) : ∃ r, Ev (fun k => impl_textOf.f k l m) r ∧ Ev (fun k => spec_l10Sum.f k l m) r := by
  rw [Bool.and_eq_true] at hg
  obtain ⟨h1, h2⟩ := hg
  unfold manyB at h1
  simp only [Bool.and_eq_true, decide_eq_true_eq] at h1
  have h3 : ∀ x ∈ l, x.size = (rdOf ByteArray.empty l 0).size ∧ x.size ≤ 20 := by
    intro x hx
    have h4 := List.all_eq_true.1 h2 x hx
    unfold alikeB at h4
    simp only [Bool.and_eq_true, decide_eq_true_eq] at h4
    omega
  have hm : rdOf ByteArray.empty l 0 ∈ l := by
    have e : rdOf ByteArray.empty l ((0 : Nat) : Int) = l[0]'(by omega) := by
      rw [rdT_nat, List.getD_eq_getElem?_getD, List.getElem?_eq_getElem (by omega)]
      rfl
    rw [show rdOf ByteArray.empty l 0 = rdOf ByteArray.empty l ((0 : Nat) : Int) from rfl, e]
    exact List.getElem_mem _
  have h5 := (h3 _ hm).2
  obtain ⟨r, h6, h7⟩ := sums_l0 l m (rdOf ByteArray.empty l 0).size h5 (by omega) (fun x hx => (h3 x hx).1) l.length 0 (strOfNums (List.replicate (rdOf ByteArray.empty l 0).size 0)) (by omega) (by rw [strOfNums_size, List.length_replicate])
  have c1 : 0 < (l.length : Int) := by omega
  have c2 : 0 ≤ ((rdOf ByteArray.empty l 0).size : Int) := by omega
  have c3 : (rdOf ByteArray.empty l 0).size ≤ 281474976710656 := by omega
  refine ⟨r, ?_, ?_⟩
  · unfold impl_textOf.f
    simp only [if_pos c1, rep0 _ (show (rdOf ByteArray.empty l 0).size ≤ 1000 by omega), Option.bind_some]
    exact h6
  · unfold spec_l10Sum.f
    simp only [if_pos c1, if_pos c2, Int.toNat_natCast, if_pos c3]
    exact h7
theorem packet_both (l : List ByteArray) (m : Int) (hb : l.length ≤ 1048576) : ∃ r, Ev (fun k => impl_PacketOf.f k l m) r ∧ Ev (fun k => spec_PacketOf.f k l m) r := by
  have hs := spec_sources l hb
  unfold impl_PacketOf.f spec_PacketOf.f
  simp only [impl_sources, Option.bind_some, u64n l.length hb]
  cases hg : (manyB l && l.all (alikeB l)) with
  | false =>
    rw [hg] at hs
    refine ⟨_, Ev.now _, Ev.bind hs ?_⟩
    simp only [Bool.false_eq_true, if_false]
    exact Ev.now _
  | true =>
    rw [hg] at hs
    have c0 : (0 : Int) ≤ (l.length : Int) := by omega
    have hm : impl_isMask.f (l.length : Int) m = some (decide (0 ≤ m) && decide (m ≤ wrap64 ((shl .i64 1 (l.length : Int)) - 1))) := by
      unfold impl_isMask.f
      rw [if_pos c0, within_s, Option.bind_some]
    simp only [if_true, hm, Option.bind_some, if_pos c0, in_s]
    obtain ⟨r, h1, h2⟩ := sums_both l m hg
    cases hb2 : (decide (0 ≤ m) && decide (m ≤ wrap64 ((shl .i64 1 (l.length : Int)) - 1))) with
    | false =>
      refine ⟨_, Ev.now _, Ev.bind hs ?_⟩
      simp only [if_true, Bool.false_eq_true, if_false]
      exact Ev.now _
    | true =>
      refine ⟨(m, r, true), ?_, Ev.bind hs ?_⟩
      · simp only [if_true]
        exact Ev.bind h1 (Ev.now _)
      · simp only [if_true]
        exact Ev.bind h2 (Ev.now _)

end Go.Proofs.Ytmglhpajnhdafaa.Pure

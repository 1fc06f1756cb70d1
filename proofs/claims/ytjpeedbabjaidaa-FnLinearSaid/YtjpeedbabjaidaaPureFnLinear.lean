/- The sum of two texts, bit for bit unlike, is their sums so, and sums go on from sums: for all drawn texts, with no condition. -/
import Derived.Test.YtjpeedbabjaidaaPLx1
import Derived.Test.YtjpeedbabjaidaaPLx2
import Derived.Test.YtjpeedbabjaidaaPLx3
import Derived.Test.YtjpeedbabjaidaaPLx4
import Derived.Test.YtjpeedbabjaidaaSumEvs
import Derived.Test.YtjpeedbabjaidaaDraws
import Derived.Test.YtjpeedbabjaidaaDrawOne
import Derived.Test.YtjpeedbabjaidaaNumbers
namespace Go.Proofs.Ytjpeedbabjaidaa.Pure
open Go.RowKit Go.Proofs.Ytjpeedbabjaidaa.PL Go.Proofs.YtjpeedbabjaidaaW.PrintWords Go.Proofs.YtjpeedbabjaidaaW.PrintLast
set_option linter.unusedVariables false
set_option linter.unusedSimpArgs false

theorem rep_zeros (n : Nat) : (⟨(Lib.repeatL (⟨#[0]⟩ : ByteArray).data.toList n).toArray⟩ : ByteArray) = zerosV n := by
  have h := Lib.repeatL_replicate 0 1 n
  rw [Nat.mul_one] at h
  have h2 : (⟨#[0]⟩ : ByteArray).data.toList = List.replicate 1 (0 : UInt8) := rfl
  rw [h2, h]
  unfold zerosV strOfNums
  rw [List.map_replicate]
  rfl
theorem repeat_val (n : Nat) (h : n ≤ 1000) : strings_Repeat.f (⟨#[0]⟩ : ByteArray) (n : Int) = some (zerosV n) := by
  unfold strings_Repeat.f
  rw [if_pos (by omega), if_pos (by omega), if_pos (by decide), Int.toNat_natCast, rep_zeros]
theorem zeros_both (s m : Int) : ∃ r, Ev (fun k => impl_SumZeros.f k s m) r ∧ Ev (fun k => spec_SumZeros.f k s m) r ∧ (∀ a b : Nat, s = (a : Int) → m = (b : Int) → a < 65536 → b ≤ 400 → r = ((toN a (zerosV b) b : Int), true)) := by
  have jt : Ev (fun k => impl_SumZeros.j0 k s m true) (0, false) := Ev.stepc (fun k => by rw [impl_SumZeros.j0, if_pos rfl])
  unfold impl_SumZeros.f spec_SumZeros.f
  simp only [isSum_eq, in400, l1In_eq, Option.bind_some]
  by_cases c1 : (0 : Int) ≤ s
  · by_cases c2 : s ≤ 65535
    · by_cases c3 : (0 : Int) ≤ m
      · by_cases c4 : m ≤ 400
        · obtain ⟨a, rfl⟩ := Int.eq_ofNat_of_zero_le c1
          obtain ⟨b, rfl⟩ := Int.eq_ofNat_of_zero_le c3
          have c5 : ((b : Int)).toNat ≤ 281474976710656 := by rw [Int.toNat_natCast]; omega
          have e1 := l1On_ev a (zerosV b) (by omega) (by rw [zeros_size]; omega)
          rw [zeros_size] at e1
          have e2 := sumOn_eq a (zerosV b) (by omega) (by rw [zeros_size]; omega)
          rw [zeros_size] at e2
          simp only [decide_eq_true c1, decide_eq_true c2, decide_eq_true c3, decide_eq_true c4, Bool.and_self, if_true, Bool.not_true, if_pos c3, if_pos c5]
          refine ⟨((toN a (zerosV b) b : Int), true), Ev.stepc (fun k => ?_), Ev.bind (g := fun k => spec_l1On.f k (a : Int) (strOfNums (List.replicate ((b : Int)).toNat 0))) e1 (Ev.now _), ?_⟩
          · rw [impl_SumZeros.j0, if_neg (by decide)]
            have e3 := repeat_val b (by omega)
            rw [e3, Option.bind_some, e2, Option.bind_some]
          · intro a2 b2 h1 h2 _ _
            have h1 : a = a2 := by omega
            have h2 : b = b2 := by omega
            subst h1 h2
            rfl
        · simp only [decide_eq_true c1, decide_eq_true c2, decide_eq_false c4, Bool.and_self, Bool.and_false, if_true, Bool.not_false, Bool.false_eq_true, if_false]
          exact ⟨_, jt, Ev.now _, fun a b h1 h2 h3 h4 => by omega⟩
      · simp only [decide_eq_true c1, decide_eq_true c2, decide_eq_false c3, Bool.and_self, Bool.false_and, if_true, Bool.not_false, Bool.false_eq_true, if_false]
        exact ⟨_, jt, Ev.now _, fun a b h1 h2 h3 h4 => by omega⟩
    · simp only [decide_eq_false c2, Bool.and_false, Bool.false_eq_true, if_false]
      exact ⟨_, jt, Ev.now _, fun a b h1 h2 h3 h4 => by omega⟩
  · simp only [decide_eq_false c1, Bool.false_and, Bool.false_eq_true, if_false]
    exact ⟨_, jt, Ev.now _, fun a b h1 h2 h3 h4 => by omega⟩
theorem unlike_g (l : List Int) (hl : ∀ x ∈ l, 0 ≤ x ∧ x ≤ 255) : ∀ (d i : Nat) (x : List Int) (p sd : Int), d ≤ 1000 → 0 ≤ p → p + 2 * d ≤ 4611686018427380000 → ∃ y, spec_DrawUnlikeBits.g d i x l p sd = some y ∧ y.length = x.length
  | 0, i, x, p, sd, _, _, _ => ⟨x, rfl, rfl⟩
  | d + 1, i, x, p, sd, hd, h0, h1 => by
    obtain ⟨y, q, s, e, _, _, hq0, hq1⟩ := pick_ev l hl p h0 (by omega) sd 4 (by omega)
    obtain ⟨z, h2, h3⟩ := unlike_g l hl d (i + 1) (x.set i (y % 256)) q s (by omega) (by omega) (by omega)
    refine ⟨z, ?_, by rw [h3, List.length_set]⟩
    rw [spec_DrawUnlikeBits.g, e, Option.bind_some]
    exact h2
theorem drawUnlikeBits_ev (l : List Int) (hl : ∀ x ∈ l, 0 ≤ x ∧ x ≤ 255) : ∃ a b : ByteArray, Ev (fun k => spec_DrawUnlikeBits.f k l) (a, b) ∧ a.size ≤ 401 := by
  obtain ⟨r, hr, h1, h2, h3⟩ := text_ev l hl 0 0 (by omega) (by omega)
  obtain ⟨x, q, s, e, hq0, hq1⟩ := one_ev l hl r.2.1 (by omega) (by omega) r.2.2 6 (by omega)
  unfold spec_DrawUnlikeBits.f
  cases x with
  | true =>
    obtain ⟨t, ht, h4, _⟩ := text_ev l hl q s (by omega) (by omega)
    refine ⟨r.1, t.1, Ev.bind hr ?_, h1⟩
    simp only [e, Option.bind_some, if_true]
    exact Ev.bind ht (Ev.now _)
  | false =>
    obtain ⟨y, h4, _⟩ := unlike_g l hl r.1.size 0 (List.replicate r.1.size 0) q s (by omega) (by omega) (by omega)
    have c1 : r.1.size ≤ 1000000 := by omega
    refine ⟨r.1, strOfNums y, Ev.bind hr ?_, h1⟩
    simp only [e, Option.bind_some, Bool.false_eq_true, if_false, if_pos c1, h4]
    exact Ev.now _
theorem m_bt (a b : ByteArray) (n i : Nat) (h : i < a.size) (hn : i < n) : (bt (strOfNums (impl_UnlikeBits.m a b n)) (i : Int)).toNat = (bt a (i : Int)).toNat ^^^ (bt b (i : Int)).toNat := by
  have ha := bt_bd0 a (i : Int)
  have hb := bt_bd0 b (i : Int)
  rw [bt_str _ i (by rw [impl_UnlikeBits.m_length]; exact h), impl_UnlikeBits.m_at a b n i h, if_pos hn]
  have e := u8_xor_nat (bt a (i : Int)).toNat (bt b (i : Int)).toNat (by omega) (by omega)
  rw [Int.toNat_of_nonneg ha.1, Int.toNat_of_nonneg hb.1] at e
  rw [e]
  have hx : (bt a (i : Int)).toNat ^^^ (bt b (i : Int)).toNat < 2 ^ 8 := Nat.xor_lt_two_pow (by omega) (by omega)
  rw [Int.toNat_natCast, Int.toNat_natCast]
  omega
theorem j2_ev (l : List Int) (hl : ∀ x ∈ l, 0 ≤ x ∧ x ≤ 255) : Ev (fun k => laws_FnLinear.j2 k l) true := by
  obtain ⟨x, q, s, e, hx, hq0, hq1⟩ := among_ev l hl 0 (by omega) (by omega) 0 spec_DrawSumOn.a (by decide)
  obtain ⟨t, ht, h1, _⟩ := text_ev l hl q s (by omega) (by omega)
  obtain ⟨u, hu, h2⟩ := drawSumOf_ev l hl
  obtain ⟨x3, q3, s3, e3, hx3, hq4, hq5⟩ := among_ev l hl 0 (by omega) (by omega) 0 spec_DrawSumZeros.a (by decide)
  obtain ⟨x4, q4, s4, e4, hx4, hq6, hq7⟩ := among_ev l hl q3 (by omega) (by omega) s3 spec_DrawSumZeros.b (by decide)
  obtain ⟨r1, i1, j1⟩ := sumOn_both x t.1 (by omega)
  obtain ⟨r2, i2, j2⟩ := sumOf_both u (by omega)
  obtain ⟨r3, i3, j3, _⟩ := zeros_both x3 x4
  have d1 : Ev (fun k => spec_DrawSumOn.f k l) (x, t.1) := by
    unfold spec_DrawSumOn.f
    simp only [e, Option.bind_some]
    exact Ev.bind ht (Ev.now _)
  have d2 : spec_DrawSumZeros.f l = some (x3, x4) := by
    unfold spec_DrawSumZeros.f
    simp only [e3, e4, Option.bind_some]
  refine Ev.step (fun k => by rw [laws_FnLinear.j2]) ?_
  refine Ev.bind d1 ?_
  simp only [i1, Option.bind_some]
  refine Ev.bind j1 (Ev.bind hu ?_)
  simp only [i2, Option.bind_some]
  refine Ev.bind j2 ?_
  simp only [d2, Option.bind_some]
  refine Ev.bind i3 (Ev.bind j3 ?_)
  simp only [beq_self_eq_true, if_true]
  exact Ev.now _
theorem j0_ev (l : List Int) (hl : ∀ x ∈ l, 0 ≤ x ∧ x ≤ 255) (hb : l.length ≤ 1099511627776) (a b : ByteArray) (h1 : a.size = b.size) (h4 : a.size ≤ 400) : Ev (fun k => laws_FnLinear.j0 k l a b (strOfNums (impl_UnlikeBits.m a b a.size)) true false) true := by
  have hxs : (strOfNums (impl_UnlikeBits.m a b a.size)).size = a.size := by rw [strOfNums_size, impl_UnlikeBits.m_length]
  have hr : toN 0 (strOfNums (impl_UnlikeBits.m a b a.size)) a.size = toN 0 a a.size ^^^ toN 0 b a.size := toN_xor _ a b 0 0 (by omega) (by omega) a.size (fun i hi => m_bt a b a.size i hi hi)
  obtain ⟨n, hn, n0, n1⟩ := numberOf_ev l hl hb
  have ew : wrap64 ((a.size : Int) + 1) = (a.size : Int) + 1 := w64 (by omega) (by omega)
  have em : Int.tmod n ((a.size : Int) + 1) = n % ((a.size : Int) + 1) := Int.tmod_eq_emod_of_nonneg n0
  have m0 : 0 ≤ n % ((a.size : Int) + 1) := Int.emod_nonneg _ (by omega)
  have m1 : n % ((a.size : Int) + 1) < (a.size : Int) + 1 := Int.emod_lt_of_pos _ (by omega)
  generalize n % ((a.size : Int) + 1) = m at em m0 m1
  obtain ⟨k0, hk0⟩ : ∃ k0 : Nat, m = (k0 : Int) := ⟨m.toNat, by omega⟩
  subst hk0
  have hk : k0 ≤ a.size := by omega
  have z1 : (a.extract 0 k0).size = k0 := by rw [ByteArray.size_extract]; omega
  have z2 : (a.extract k0 a.size).size = a.size - k0 := by rw [ByteArray.size_extract]; omega
  have v1 := sumOf_val a h4
  have v2 := sumOf_val b (by omega)
  have v3 := sumOf_val (strOfNums (impl_UnlikeBits.m a b a.size)) (by omega)
  have v4 := sumOf_val (a.extract 0 k0) (by omega)
  rw [z1, toN_head 0 a k0 hk] at v4
  have l4 : toN 0 a k0 < 65536 := toN_lt 0 a (by omega) k0
  have v5 := sumOn_val (toN 0 a k0) (a.extract k0 a.size) l4 (by omega)
  rw [z2, toN_from 0 a k0 (a.size - k0) (by omega), show k0 + (a.size - k0) = a.size by omega] at v5
  have v6 := sumOf_val (a.extract k0 a.size) (by omega)
  rw [z2] at v6
  rw [hxs, hr] at v3
  rw [← h1] at v2
  have lb : toN 0 b a.size < 65536 := toN_lt 0 b (by omega) _
  have la : toN 0 a a.size < 65536 := toN_lt 0 a (by omega) _
  have lc : toN 0 (a.extract k0 a.size) (a.size - k0) < 65536 := toN_lt 0 _ (by omega) _
  have ex := i64_xor_nat (toN 0 a a.size) (toN 0 b a.size) (by omega) (by omega)
  obtain ⟨z, hz, _, hz2⟩ := zeros_both (toN 0 a k0 : Int) ((a.size - k0 : Nat) : Int)
  have hz3 := hz2 _ _ rfl rfl l4 (by omega)
  subst hz3
  have lz : toN (toN 0 a k0) (zerosV (a.size - k0)) (a.size - k0) < 65536 := toN_lt _ _ l4 _
  have ez := i64_xor_nat (toN (toN 0 a k0) (zerosV (a.size - k0)) (a.size - k0)) (toN 0 (a.extract k0 a.size) (a.size - k0)) (by omega) (by omega)
  have hz4 : toN (toN 0 a k0) (zerosV (a.size - k0)) (a.size - k0) ^^^ toN 0 (a.extract k0 a.size) (a.size - k0) = toN 0 a a.size := by
    have := toN_xor (a.extract k0 a.size) (zerosV (a.size - k0)) (a.extract k0 a.size) (toN 0 a k0) 0 l4 (by omega) (a.size - k0) (fun i hi => by rw [zeros_bt _ i hi]; exact (Nat.zero_xor _).symm)
    rw [Nat.xor_zero, toN_from 0 a k0 (a.size - k0) (by omega), show k0 + (a.size - k0) = a.size by omega] at this
    exact this.symm
  rw [hz4] at ez
  have c1 : ¬ (a.size : Int) + 1 = 0 := by omega
  have c3 : (k0 : Int) ≤ (a.size : Int) := by omega
  have ed : wrap64 ((a.size : Int) - (k0 : Int)) = ((a.size - k0 : Nat) : Int) := by rw [w64 (by omega) (by omega)]; omega
  refine Ev.step (fun k => by rw [laws_FnLinear.j0]) ?_
  simp only [Bool.false_eq_true, if_false, if_true, v1, v2, v3, Option.bind_some]
  refine Ev.bind hn ?_
  simp only [ew, em, if_neg c1, if_pos m0, if_pos c3, Int.toNat_natCast, v4, Option.bind_some, v5, if_true, ex, bne_self_eq_false]
  refine Ev.step (fun k => by rw [laws_FnLinear.j1]) ?_
  simp only [Bool.false_eq_true, if_false, ed]
  refine Ev.bind hz ?_
  simp only [if_pos m0, if_pos c3, Int.toNat_natCast, v6, Option.bind_some, if_true, ez]
  exact j2_ev l hl
theorem FnLinear : laws_FnLinear.Pure := by
  intro l0 l1 p1 _ hw0 p2 _ hw1
  have hl0 : ∀ x ∈ l0, 0 ≤ x ∧ x ≤ 255 := fun x hx => by simpa [Lit.wf, IntKind.min, IntKind.max, IntKind.signed, IntKind.bits] using hw0 x hx
  have hl1 : ∀ x ∈ l1, 0 ≤ x ∧ x ≤ 255 := fun x hx => by simpa [Lit.wf, IntKind.min, IntKind.max, IntKind.signed, IntKind.bits] using hw1 x hx
  suffices h : Ev (fun k => laws_FnLinear.f k l0 l1) true from h.rounds
  unfold laws_FnLinear.f
  by_cases c0 : wrap64 ((l0.length : Int) + (l1.length : Int)) > 1048576
  · simp only [if_pos c0]
    exact Ev.now true
  · simp only [if_neg c0]
    have hb : l1.length ≤ 1099511627776 := by
      unfold maxLen at p1 p2
      unfold wrap64 at c0
      omega
    obtain ⟨a, b, hd, h1⟩ := drawUnlikeBits_ev l0 hl0
    refine Ev.bind hd ?_
    have jn : Ev (fun k => laws_FnLinear.j0 k l1 a b (⟨#[]⟩ : ByteArray) false false) true := by
      refine Ev.step (fun k => by rw [laws_FnLinear.j0]) ?_
      simp only [Bool.false_eq_true, if_false]
      exact j2_ev l1 hl1
    unfold impl_UnlikeBits.f spec_UnlikeBits.f
    by_cases c1 : (a.size : Int) = (b.size : Int)
    · by_cases c2 : (a.size : Int) > 400
      · simp only [if_pos c1, if_pos c2, Option.bind_some, bne_self_eq_false, Bool.false_eq_true, if_false]
        exact jn
      · have em : spec_UnlikeBits.m a b a.size = impl_UnlikeBits.m a b a.size := rfl
        simp only [if_pos c1, if_neg c2, Option.bind_some, bne_self_eq_false, Bool.false_eq_true, if_false, em]
        exact j0_ev l1 hl1 hb a b (by omega) (by omega)
    · simp only [if_neg c1, Option.bind_some, bne_self_eq_false, Bool.false_eq_true, if_false]
      exact jn

end Go.Proofs.Ytjpeedbabjaidaa.Pure

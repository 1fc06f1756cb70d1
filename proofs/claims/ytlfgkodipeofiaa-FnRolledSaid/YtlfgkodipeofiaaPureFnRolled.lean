/- A sum that rolls along is that of the bytes it stands at: for all drawn texts, with no condition. -/
import Derived.Test.YtlfgkodipeofiaaPRx1
import Derived.Test.YtlfgkodipeofiaaPRx2
import Derived.Test.YtlfgkodipeofiaaPRx3
import Derived.Test.YtlfgkodipeofiaaRolling
import Derived.Test.YtlfgkodipeofiaaDrawOld
import Derived.Test.YtlfgkodipeofiaaNumbers
import Derived.Test.YtlfgkodipeofiaaSameInts
import Derived.Test.YtlfgkodipeofiaaBlockSumsV
namespace Go.Proofs.Ytlfgkodipeofiaa.Pure
open Go.RowKit Go.Proofs.Ytlfgkodipeofiaa.PR Go.Proofs.YtlfgkodipeofiaaW.PrintWords Go.Proofs.YtlfgkodipeofiaaW.PrintLast
set_option linter.unusedVariables false
set_option linter.unusedSimpArgs false

theorem drawRollOn_ev (l : List Int) (hl : ∀ x ∈ l, 0 ≤ x ∧ x ≤ 255) : ∃ r1 r2 r3 r4, spec_DrawRollOn.f l = some (r1, r2, r3, r4) ∧ (-9223372036854775808 ≤ r1 ∧ r1 ≤ 9223372036854775807) ∧ (0 ≤ r2 ∧ r2 ≤ 255) ∧ (0 ≤ r3 ∧ r3 ≤ 255) := by
  unfold spec_DrawRollOn.f
  obtain ⟨x, q, s, e, hx, hq⟩ := among_ev l hl 0 (by omega) (by omega) 0 spec_DrawRollOn.a (by decide)
  obtain ⟨y, q2, s2, e2, hy, hy2, hq2⟩ := pick_ev l hl q (by omega) (by omega) s 256 (by omega)
  obtain ⟨z, q3, s3, e3, hz, hz2, hq3⟩ := pick_ev l hl q2 (by omega) (by omega) s2 256 (by omega)
  obtain ⟨u, q4, s4, e4, hu, hq4⟩ := among_ev l hl q3 (by omega) (by omega) s3 spec_DrawRollOn.b (by decide)
  refine ⟨x, y % 256, z % 256, u, ?_, ?_, by omega, by omega⟩
  · rw [e, Option.bind_some]
    simp only []
    rw [e2, Option.bind_some]
    simp only []
    rw [e3, Option.bind_some]
    simp only []
    rw [e4, Option.bind_some]
  · simp only [spec_DrawRollOn.a, List.mem_cons, List.not_mem_nil, or_false] at hx
    omega
theorem tail_eq (l : List Int) (hl : ∀ x ∈ l, 0 ≤ x ∧ x ≤ 255) : ((spec_DrawRollOn.f l).bind fun bt188 => ((impl_RollOn.f bt188.1 bt188.2.1 bt188.2.2.1 bt188.2.2.2).bind fun bt192 => ((spec_RollOn.f bt188.1 bt188.2.1 bt188.2.2.1 bt188.2.2.2).bind fun bt194 => (if (bt192.2 == bt194.2) = true then (some (bt192.1 == bt194.1)) else (some false))))) = some true := by
  obtain ⟨r1, r2, r3, r4, e, b1, b2, b3⟩ := drawRollOn_ev l hl
  obtain ⟨r, h1, h2⟩ := rollOn_same r1 r2 r3 r4 b1 b2 b3
  rw [e, Option.bind_some]
  simp only []
  rw [h1, Option.bind_some, h2, Option.bind_some]
  simp
theorem loop_ev (x1 : List Int) (hx : ∀ x ∈ x1, 0 ≤ x ∧ x ≤ 255) (s : ByteArray) (hs : s.size ≤ 120) (b : List Int) (hb : b.length = s.size / 4) (L : Nat) (h1 : 1 ≤ L) : ∀ (d i : Nat), i + L + d = s.size →
    Ev (fun k => laws_FnRolled.l0 k x1 s b true (L : Int) (rollV (s.extract i (i + L))) ((i + 1 : Nat) : Int)) true
  | 0, i, h => by
    refine Ev.step (f := fun k => laws_FnRolled.j3 k x1 false) (fun k => ?_) (Ev.stepc (fun k => ?_))
    · simp only [laws_FnRolled.l0]
      have e : wrap64 (((i + 1 : Nat) : Int) + (L : Int)) = ((i + 1 + L : Nat) : Int) := by rw [w64 (by omega) (by omega)]; omega
      have e2 : wrap64 ((s.size : Int) / 4) = ((s.size / 4 : Nat) : Int) := by rw [w64 (by omega) (by omega)]; omega
      rw [e, e2, hb, if_neg (by omega)]
      simp
    · simp only [laws_FnRolled.j3]
      rw [if_neg (by decide)]
      exact tail_eq x1 hx
  | d + 1, i, h => by
    have ih := loop_ev x1 hx s hs b hb L h1 d (i + 1) (by omega)
    refine Ev.step (fun k => ?_) ih
    simp only [laws_FnRolled.l0]
    have e : wrap64 (((i + 1 : Nat) : Int) + (L : Int)) = ((i + 1 + L : Nat) : Int) := by rw [w64 (by omega) (by omega)]; omega
    have e1 : wrap64 (((i + 1 : Nat) : Int) - 1) = (i : Int) := by rw [w64 (by omega) (by omega)]; omega
    have e2 : wrap64 (((i + 1 + L : Nat) : Int) - 1) = ((i + L : Nat) : Int) := by rw [w64 (by omega) (by omega)]; omega
    have e3 : wrap64 (((i + 1 : Nat) : Int) + 1) = ((i + 1 + 1 : Nat) : Int) := wnat (by omega)
    have z : (s.extract (i + 1) (i + 1 + L)).size = L := (cut_sums s (i + 1) L (by omega)).1
    have ro : impl_RollOf.f (s.extract (i + 1) (i + 1 + L)) = some (rollV (s.extract (i + 1) (i + 1 + L)), true) := by
      unfold impl_RollOf.f impl_isShort.f
      have c2 : ((s.extract (i + 1) (i + 1 + L)).size : Int) ≤ 120 := by rw [z]; omega
      simp only [decide_eq_true c2, Option.bind_some, if_true, impl_rollOf_eq _ (by omega : (s.extract (i + 1) (i + 1 + L)).size ≤ 400)]
    rw [e, e1, e2, e3, if_pos (by omega), if_pos (by omega), if_pos (by omega), if_pos (by omega), if_pos (by omega), roll_next s i L (by omega) h1 (by omega), Option.bind_some, if_pos (by omega), if_pos (by omega), Int.toNat_natCast, Int.toNat_natCast, ro, Option.bind_some]
    simp
theorem FnRolled : laws_FnRolled.Pure := by
  intro l0 l1 _ _ hw0 _ _ hw1
  have hl0 : ∀ x ∈ l0, 0 ≤ x ∧ x ≤ 255 := fun x hx => by simpa [Lit.wf, IntKind.min, IntKind.max, IntKind.signed, IntKind.bits] using hw0 x hx
  have hl1 : ∀ x ∈ l1, 0 ≤ x ∧ x ≤ 255 := fun x hx => by simpa [Lit.wf, IntKind.min, IntKind.max, IntKind.signed, IntKind.bits] using hw1 x hx
  suffices h : Ev (fun k => laws_FnRolled.f k l0 l1) true from h.rounds
  unfold laws_FnRolled.f
  by_cases c0 : wrap64 ((l0.length : Int) + (l1.length : Int)) > 1048576
  · simp only [if_pos c0]
    exact Ev.now true
  · simp only [if_neg c0]
    obtain ⟨s, hs, hsz⟩ := drawRollOf_ev l0 hl0
    refine Ev.bind hs ?_
    have jf : Ev (fun k => laws_FnRolled.j1 k l1 s ([] : List Int) false false) true := Ev.stepc (fun k => by
      simp only [laws_FnRolled.j1]
      rw [if_neg (by decide)]
      exact tail_eq l1 hl1)
    by_cases c2 : (s.size : Int) ≤ 120
    · have hr := spec_roll_ev s (by omega)
      have b1 := spec_sums_l0 s (by omega) (s.size / 4) 0 [] (by omega) (by simp)
      have b2 := impl_sums_l0 s (by omega) (s.size / 4) 0 [] (by omega) (by simp)
      rw [List.nil_append] at b1 b2
      have hlen := sumsFrom_length s (s.size / 4) 0
      generalize sumsFrom s (s.size / 4) 0 = B at b1 b2 hlen
      have i1 : impl_RollOf.f s = some (rollV s, true) := by
        unfold impl_RollOf.f impl_isShort.f
        simp only [decide_eq_true c2, Option.bind_some, if_true, impl_rollOf_eq s (by omega)]
      have i2 : Ev (fun k => spec_RollOf.f k s) (rollV s, true) := by
        unfold spec_RollOf.f spec_l11Long.f
        simp only [decide_eq_true c2, Option.bind_some, if_true]
        exact Ev.bind hr (Ev.now _)
      have i3 : Ev (fun k => impl_BlockSums.f k s) (B, true) := by
        unfold impl_BlockSums.f impl_isShort.f
        simp only [decide_eq_true c2, Option.bind_some, if_true]
        exact b2
      have i4 : Ev (fun k => spec_BlockSums.f k s) (B, true) := by
        unfold spec_BlockSums.f spec_l11Long.f
        simp only [decide_eq_true c2, Option.bind_some, if_true]
        exact b1
      have j1t : Ev (fun k => laws_FnRolled.j1 k l1 s B true (decide ((s.size : Int) > 1))) true := by
        by_cases c3 : (s.size : Int) > 1
        · rw [decide_eq_true c3]
          obtain ⟨n, hn, n0, n1⟩ : ∃ n, Ev (fun k => laws_numberOf.f k l1) n ∧ 0 ≤ n ∧ n < 1000003 := by
            by_cases c4 : l1.length ≤ 1099511627776
            · exact numberOf_ev l1 hl1 c4
            · exfalso
              rename_i p1 p2 p3 p4
              unfold maxLen at *
              unfold wrap64 at c0
              omega
          have ew : wrap64 ((s.size : Int) - 1) = (s.size : Int) - 1 := w64 (by omega) (by omega)
          have em : Int.tmod n ((s.size : Int) - 1) = n % ((s.size : Int) - 1) := Int.tmod_eq_emod_of_nonneg n0
          have m0 : 0 ≤ n % ((s.size : Int) - 1) := Int.emod_nonneg _ (by omega)
          have m1 : n % ((s.size : Int) - 1) < (s.size : Int) - 1 := Int.emod_lt_of_pos _ (by omega)
          obtain ⟨m, hm⟩ := Int.eq_ofNat_of_zero_le m0
          have eL : wrap64 (1 + Int.tmod n (wrap64 ((s.size : Int) - 1))) = ((m + 1 : Nat) : Int) := by
            rw [ew, em, hm, w64 (by omega) (by omega)]
            omega
          rw [hm] at m1
          have hz : (s.extract 0 (m + 1)).size = m + 1 := by rw [ByteArray.size_extract]; omega
          have ro : impl_RollOf.f (s.extract 0 (m + 1)) = some (rollV (s.extract 0 (m + 1)), true) := by
            unfold impl_RollOf.f impl_isShort.f
            have c5 : ((s.extract 0 (m + 1)).size : Int) ≤ 120 := by rw [hz]; omega
            simp only [decide_eq_true c5, Option.bind_some, if_true, impl_rollOf_eq _ (by omega : (s.extract 0 (m + 1)).size ≤ 400)]
          have lp := loop_ev l1 hl1 s (by omega) B hlen (m + 1) (by omega) (s.size - (m + 1)) 0 (by omega)
          rw [Nat.zero_add] at lp
          refine Ev.step (f := fun k => (laws_numberOf.f k l1).bind fun t => if (wrap64 ((s.size : Int) - 1)) = 0 then none else (if 0 ≤ wrap64 (1 + Int.tmod t (wrap64 ((s.size : Int) - 1))) then (if wrap64 (1 + Int.tmod t (wrap64 ((s.size : Int) - 1))) ≤ (s.size : Int) then ((impl_RollOf.f (s.extract 0 (wrap64 (1 + Int.tmod t (wrap64 ((s.size : Int) - 1))) : Int).toNat)).bind fun bt => if bt.2 = true then laws_FnRolled.l0 k l1 s B true (wrap64 (1 + Int.tmod t (wrap64 ((s.size : Int) - 1)))) bt.1 1 else some false) else none) else none)) (fun k => ?_) (Ev.bind hn ?_)
          · simp only [laws_FnRolled.j1]
            rw [if_pos trivial]
          · have g0 : ¬ wrap64 ((s.size : Int) - 1) = 0 := by rw [ew]; omega
            have g1 : (0 : Int) ≤ ((m + 1 : Nat) : Int) := by omega
            have g2 : ((m + 1 : Nat) : Int) ≤ (s.size : Int) := by omega
            simp only [if_neg g0, eL, if_pos g1, if_pos g2, Int.toNat_natCast, ro, Option.bind_some, if_true]
            exact lp
        · rw [decide_eq_false c3]
          exact Ev.stepc (fun k => by
            simp only [laws_FnRolled.j1]
            rw [if_neg (by decide)]
            exact tail_eq l1 hl1)
      have j0t : Ev (fun k => laws_FnRolled.j0 k l1 s true B true false) true := by
        refine Ev.step (fun k => ?_) j1t
        simp only [laws_FnRolled.j0]
        rw [if_neg (by decide)]
        simp
      rw [i1]
      simp only [Option.bind_some]
      refine Ev.bind i2 (Ev.bind i3 (Ev.bind i4 ?_))
      simp only [bne_self_eq_false, Bool.false_eq_true, if_false, if_true]
      refine Ev.bind (sameInts_self B (by omega)) ?_
      exact j0t
    · have i1 : impl_RollOf.f s = some (0, false) := by
        unfold impl_RollOf.f impl_isShort.f
        simp [decide_eq_false c2]
      have i2 : Ev (fun k => spec_RollOf.f k s) ((0 : Int), false) := by
        unfold spec_RollOf.f spec_l11Long.f
        simpa [decide_eq_false c2] using Ev.now ((0 : Int), false)
      have i3 : Ev (fun k => impl_BlockSums.f k s) (([] : List Int), false) := by
        unfold impl_BlockSums.f impl_isShort.f
        simpa [decide_eq_false c2] using Ev.now (([] : List Int), false)
      have i4 : Ev (fun k => spec_BlockSums.f k s) (([] : List Int), false) := by
        unfold spec_BlockSums.f spec_l11Long.f
        simpa [decide_eq_false c2] using Ev.now (([] : List Int), false)
      have j0f : Ev (fun k => laws_FnRolled.j0 k l1 s false ([] : List Int) false false) true := by
        refine Ev.step (fun k => ?_) jf
        simp only [laws_FnRolled.j0]
        rw [if_neg (by decide)]
        simp
      rw [i1]
      simp only [Option.bind_some]
      refine Ev.bind i2 (Ev.bind i3 (Ev.bind i4 ?_))
      simp only [bne_self_eq_false, Bool.false_eq_true, if_false, if_true]
      refine Ev.bind (sameInts_self [] (by simp)) ?_
      exact j0f

end Go.Proofs.Ytlfgkodipeofiaa.Pure

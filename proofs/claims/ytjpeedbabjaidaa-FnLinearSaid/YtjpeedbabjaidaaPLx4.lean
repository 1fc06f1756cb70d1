-- Written by a program of this session (wip/xprint.py over the kit's printer), out of the translation; the texts of functions that the printer does not take are this session's own.
import Derived.Test.YtjpeedbabjaidaaPLx0
import Derived.Test.YtjpeedbabjaidaaPLx1
import Derived.Test.YtjpeedbabjaidaaPLx2
import Derived.Test.YtjpeedbabjaidaaPLx3
namespace Go.Proofs.Ytjpeedbabjaidaa.PL
open Go.RowKit Go.Proofs.YtjpeedbabjaidaaW.PrintWords Go.Proofs.YtjpeedbabjaidaaW.PrintLast Go.Proofs.YtjpeedbabjaidaaW.PrintMore
attribute [local go_sem] max2_int min2_int max_two min_two max_three min_three max_four min_four   -- for this text's walks alone
set_option linter.unusedVariables false
set_option linter.unusedSimpArgs false

/-! ### laws_FnLinear: function 8 -/
mutual
def laws_FnLinear.j0 : Nat → List Int → ByteArray → ByteArray → ByteArray → Bool → Bool → Option (Bool)
  | 0, _, _, _, _, _, _ => none
  | k + 1, x1, x5, x6, x7, x8, x73 => if x73 = true then (some false) else (if x8 = true then ((impl_SumOf.f x5).bind fun bt166 => ((impl_SumOf.f x6).bind fun bt168 => ((impl_SumOf.f x7).bind fun bt170 => ((laws_numberOf.f k x1).bind fun t172 => (if (wrap64 ((x5.size : Int) + 1)) = 0 then (none) else (if 0 ≤ (Int.tmod t172 (wrap64 ((x5.size : Int) + 1))) then (if (Int.tmod t172 (wrap64 ((x5.size : Int) + 1))) ≤ (x5.size : Int) then ((impl_SumOf.f (x5.extract 0 ((Int.tmod t172 (wrap64 ((x5.size : Int) + 1))) : Int).toNat)).bind fun bt173 => ((impl_SumOn.f bt173.1 (x5.extract ((Int.tmod t172 (wrap64 ((x5.size : Int) + 1))) : Int).toNat x5.size)).bind fun bt175 => (if bt166.2 = true then (if bt168.2 = true then (if bt170.2 = true then (if bt170.1 = (Go.bits .xor .i64 bt166.1 bt168.1) then (if bt173.2 = true then (if bt175.2 = true then (laws_FnLinear.j1 k x1 x5 bt166.1 (Int.tmod t172 (wrap64 ((x5.size : Int) + 1))) bt173.1 (bt175.1 != bt166.1)) else (laws_FnLinear.j1 k x1 x5 bt166.1 (Int.tmod t172 (wrap64 ((x5.size : Int) + 1))) bt173.1 true)) else (laws_FnLinear.j1 k x1 x5 bt166.1 (Int.tmod t172 (wrap64 ((x5.size : Int) + 1))) bt173.1 true)) else (laws_FnLinear.j1 k x1 x5 bt166.1 (Int.tmod t172 (wrap64 ((x5.size : Int) + 1))) bt173.1 true)) else (laws_FnLinear.j1 k x1 x5 bt166.1 (Int.tmod t172 (wrap64 ((x5.size : Int) + 1))) bt173.1 true)) else (laws_FnLinear.j1 k x1 x5 bt166.1 (Int.tmod t172 (wrap64 ((x5.size : Int) + 1))) bt173.1 true)) else (laws_FnLinear.j1 k x1 x5 bt166.1 (Int.tmod t172 (wrap64 ((x5.size : Int) + 1))) bt173.1 true)))) else (none)) else (none))))))) else (laws_FnLinear.j2 k x1))
def laws_FnLinear.j2 : Nat → List Int → Option (Bool)
  | 0, _ => none
  | k + 1, x1 => (spec_DrawSumOn.f k x1).bind fun bt181 => ((impl_SumOn.f bt181.1 bt181.2).bind fun bt183 => ((spec_SumOn.f k bt181.1 bt181.2).bind fun bt185 => ((spec_DrawSumOf.f k x1).bind fun t187 => ((impl_SumOf.f t187).bind fun bt188 => ((spec_SumOf.f k t187).bind fun bt190 => ((spec_DrawSumZeros.f x1).bind fun bt192 => ((impl_SumZeros.f k bt192.1 bt192.2).bind fun bt194 => ((spec_SumZeros.f k bt192.1 bt192.2).bind fun bt196 => (if (bt183.2 == bt185.2) = true then (if bt183.1 = bt185.1 then (if (bt188.2 == bt190.2) = true then (if bt188.1 = bt190.1 then (if (bt194.2 == bt196.2) = true then (some (bt194.1 == bt196.1)) else (some false)) else (some false)) else (some false)) else (some false)) else (some false))))))))))
def laws_FnLinear.j1 : Nat → List Int → ByteArray → Int → Int → Int → Bool → Option (Bool)
  | 0, _, _, _, _, _, _ => none
  | k + 1, x1, x5, x11, x17, x18, x140 => if x140 = true then (some false) else ((impl_SumZeros.f k x18 (wrap64 ((x5.size : Int) - x17))).bind fun bt177 => (if 0 ≤ x17 then (if x17 ≤ (x5.size : Int) then ((impl_SumOf.f (x5.extract (x17 : Int).toNat x5.size)).bind fun bt179 => (if bt177.2 = true then (if bt179.2 = true then (if (Go.bits .xor .i64 bt177.1 bt179.1) = x11 then (laws_FnLinear.j2 k x1) else (some false)) else (some false)) else (some false))) else (none)) else (none)))
end
def laws_FnLinear.f (k : Nat) (l0 : List Int) (l1 : List Int) : Option (Bool) := if (wrap64 ((l0.length : Int) + (l1.length : Int))) > 1048576 then (some true) else ((spec_DrawUnlikeBits.f k l0).bind fun bt160 => ((impl_UnlikeBits.f bt160.1 bt160.2).bind fun bt162 => ((spec_UnlikeBits.f bt160.1 bt160.2).bind fun bt164 => (if (bt162.2 != bt164.2) = true then (laws_FnLinear.j0 k l1 bt160.1 bt160.2 bt162.1 bt162.2 true) else (laws_FnLinear.j0 k l1 bt160.1 bt160.2 bt162.1 bt162.2 (bt162.1.toList != bt164.1.toList))))))
theorem laws_FnLinear.mono_l : ∀ k, (∀ y0 y1 y2 y3 y4 y5, LeO (laws_FnLinear.j0 k y0 y1 y2 y3 y4 y5) (laws_FnLinear.j0 (k + 1) y0 y1 y2 y3 y4 y5)) ∧ (∀ y0, LeO (laws_FnLinear.j2 k y0) (laws_FnLinear.j2 (k + 1) y0)) ∧ (∀ y0 y1 y2 y3 y4 y5, LeO (laws_FnLinear.j1 k y0 y1 y2 y3 y4 y5) (laws_FnLinear.j1 (k + 1) y0 y1 y2 y3 y4 y5))
  | 0 => ⟨fun _ _ _ _ _ _ r h => by simp [laws_FnLinear.j0] at h, fun _ r h => by simp [laws_FnLinear.j2] at h, fun _ _ _ _ _ _ r h => by simp [laws_FnLinear.j1] at h⟩
  | k + 1 => by
    obtain ⟨ih0, ih1, ih2⟩ := laws_FnLinear.mono_l k
    refine ⟨?_, ?_, ?_⟩
    · intro y0 y1 y2 y3 y4 y5
      unfold laws_FnLinear.j0
      repeat' first
      | (with_reducible exact ih0 _ _ _ _ _ _)
      | (with_reducible exact ih1 _)
      | (with_reducible exact ih2 _ _ _ _ _ _)
      | (with_reducible exact impl_SumZeros.mono _ _ _)
      | (with_reducible exact laws_numberOf.mono _ _)
      | (with_reducible exact spec_DrawSumOf.mono _ _)
      | (with_reducible exact spec_DrawSumOn.mono _ _)
      | (with_reducible exact spec_DrawUnlikeBits.mono _ _)
      | (with_reducible exact spec_SumOf.mono _ _)
      | (with_reducible exact spec_SumOn.mono _ _ _)
      | (with_reducible exact spec_SumZeros.mono _ _ _)
      | (with_reducible exact LeO.refl _)
      | (with_reducible exact LeO.none _)
      | (with_reducible refine LeO.ite ?_ ?_)
      | (with_reducible refine LeO.bind ?_ (fun _ => ?_))
      | exact ih0 _ _ _ _ _ _
      | exact ih1 _
      | exact ih2 _ _ _ _ _ _
      | exact impl_SumZeros.mono _ _ _
      | exact laws_numberOf.mono _ _
      | exact spec_DrawSumOf.mono _ _
      | exact spec_DrawSumOn.mono _ _
      | exact spec_DrawUnlikeBits.mono _ _
      | exact spec_SumOf.mono _ _
      | exact spec_SumOn.mono _ _ _
      | exact spec_SumZeros.mono _ _ _
      | exact LeO.none _
      | refine LeO.ite ?_ ?_
      | refine LeO.bind ?_ (fun _ => ?_)
    · intro y0
      unfold laws_FnLinear.j2
      repeat' first
      | (with_reducible exact ih0 _ _ _ _ _ _)
      | (with_reducible exact ih1 _)
      | (with_reducible exact ih2 _ _ _ _ _ _)
      | (with_reducible exact impl_SumZeros.mono _ _ _)
      | (with_reducible exact laws_numberOf.mono _ _)
      | (with_reducible exact spec_DrawSumOf.mono _ _)
      | (with_reducible exact spec_DrawSumOn.mono _ _)
      | (with_reducible exact spec_DrawUnlikeBits.mono _ _)
      | (with_reducible exact spec_SumOf.mono _ _)
      | (with_reducible exact spec_SumOn.mono _ _ _)
      | (with_reducible exact spec_SumZeros.mono _ _ _)
      | (with_reducible exact LeO.refl _)
      | (with_reducible exact LeO.none _)
      | (with_reducible refine LeO.ite ?_ ?_)
      | (with_reducible refine LeO.bind ?_ (fun _ => ?_))
      | exact ih0 _ _ _ _ _ _
      | exact ih1 _
      | exact ih2 _ _ _ _ _ _
      | exact impl_SumZeros.mono _ _ _
      | exact laws_numberOf.mono _ _
      | exact spec_DrawSumOf.mono _ _
      | exact spec_DrawSumOn.mono _ _
      | exact spec_DrawUnlikeBits.mono _ _
      | exact spec_SumOf.mono _ _
      | exact spec_SumOn.mono _ _ _
      | exact spec_SumZeros.mono _ _ _
      | exact LeO.none _
      | refine LeO.ite ?_ ?_
      | refine LeO.bind ?_ (fun _ => ?_)
    · intro y0 y1 y2 y3 y4 y5
      unfold laws_FnLinear.j1
      repeat' first
      | (with_reducible exact ih0 _ _ _ _ _ _)
      | (with_reducible exact ih1 _)
      | (with_reducible exact ih2 _ _ _ _ _ _)
      | (with_reducible exact impl_SumZeros.mono _ _ _)
      | (with_reducible exact laws_numberOf.mono _ _)
      | (with_reducible exact spec_DrawSumOf.mono _ _)
      | (with_reducible exact spec_DrawSumOn.mono _ _)
      | (with_reducible exact spec_DrawUnlikeBits.mono _ _)
      | (with_reducible exact spec_SumOf.mono _ _)
      | (with_reducible exact spec_SumOn.mono _ _ _)
      | (with_reducible exact spec_SumZeros.mono _ _ _)
      | (with_reducible exact LeO.refl _)
      | (with_reducible exact LeO.none _)
      | (with_reducible refine LeO.ite ?_ ?_)
      | (with_reducible refine LeO.bind ?_ (fun _ => ?_))
      | exact ih0 _ _ _ _ _ _
      | exact ih1 _
      | exact ih2 _ _ _ _ _ _
      | exact impl_SumZeros.mono _ _ _
      | exact laws_numberOf.mono _ _
      | exact spec_DrawSumOf.mono _ _
      | exact spec_DrawSumOn.mono _ _
      | exact spec_DrawUnlikeBits.mono _ _
      | exact spec_SumOf.mono _ _
      | exact spec_SumOn.mono _ _ _
      | exact spec_SumZeros.mono _ _ _
      | exact LeO.none _
      | refine LeO.ite ?_ ?_
      | refine LeO.bind ?_ (fun _ => ?_)
theorem laws_FnLinear.mono : ∀ a0 a1 k, LeO (laws_FnLinear.f k a0 a1) (laws_FnLinear.f (k + 1) a0 a1) := by
  intro a0 a1 k
  obtain ⟨ih0, ih1, ih2⟩ := laws_FnLinear.mono_l k
  unfold laws_FnLinear.f
  repeat' first
      | (with_reducible exact ih0 _ _ _ _ _ _)
      | (with_reducible exact ih1 _)
      | (with_reducible exact ih2 _ _ _ _ _ _)
      | (with_reducible exact impl_SumZeros.mono _ _ _)
      | (with_reducible exact laws_numberOf.mono _ _)
      | (with_reducible exact spec_DrawSumOf.mono _ _)
      | (with_reducible exact spec_DrawSumOn.mono _ _)
      | (with_reducible exact spec_DrawUnlikeBits.mono _ _)
      | (with_reducible exact spec_SumOf.mono _ _)
      | (with_reducible exact spec_SumOn.mono _ _ _)
      | (with_reducible exact spec_SumZeros.mono _ _ _)
      | (with_reducible exact LeO.refl _)
      | (with_reducible exact LeO.none _)
      | (with_reducible refine LeO.ite ?_ ?_)
      | (with_reducible refine LeO.bind ?_ (fun _ => ?_))
      | exact ih0 _ _ _ _ _ _
      | exact ih1 _
      | exact ih2 _ _ _ _ _ _
      | exact impl_SumZeros.mono _ _ _
      | exact laws_numberOf.mono _ _
      | exact spec_DrawSumOf.mono _ _
      | exact spec_DrawSumOn.mono _ _
      | exact spec_DrawUnlikeBits.mono _ _
      | exact spec_SumOf.mono _ _
      | exact spec_SumOn.mono _ _ _
      | exact spec_SumZeros.mono _ _ _
      | exact LeO.none _
      | refine LeO.ite ?_ ?_
      | refine LeO.bind ?_ (fun _ => ?_)
set_option maxHeartbeats 8000000 in
set_option maxRecDepth 100000 in
theorem laws_FnLinear.calls (k : Nat) (A0 : Option Addr) (c0 : Nat) (l0 : List Int) (A1 : Option Addr) (c1 : Nat) (l1 : List Int) (r : Bool) (w : World) (hr0 : Kd.C (Kd.int .u8) w A0 l0.length l0) (hc0 : l0.length ≤ c0) (hr1 : Kd.C (Kd.int .u8) w A1 l1.length l1) (hc1 : l1.length ≤ c1) (h : laws_FnLinear.f k l0 l1 = some r) :
    Calls Try.prog 8 #[.slice A0 l0.length c0, .slice A1 l1.length c1] w fun e w' => e = .returned (.bool r) ∧ Below w.heap.size w w' := by
  have HR0 := Aside0.mk hr0
  have HC0 := Aside0.mk hc0
  clear hr0 hc0
  have HR1 := Aside0.mk hr1
  have HC1 := Aside0.mk hc1
  clear hr1 hc1
  have HB := Aside0.mk (Below.refl w.heap.size w)
  have H : (if (wrap64 ((l0.length : Int) + (l1.length : Int))) > 1048576 then (some true) else ((spec_DrawUnlikeBits.f k l0).bind fun bt160 => ((impl_UnlikeBits.f bt160.1 bt160.2).bind fun bt162 => ((spec_UnlikeBits.f bt160.1 bt160.2).bind fun bt164 => (if (bt162.2 != bt164.2) = true then (laws_FnLinear.j0 k l1 bt160.1 bt160.2 bt162.1 bt162.2 true) else (laws_FnLinear.j0 k l1 bt160.1 bt160.2 bt162.1 bt162.2 (bt162.1.toList != bt164.1.toList))))))) = some r := h
  clear h
  by_cases c3 : (wrap64 ((l0.length : Int) + (l1.length : Int))) > 1048576
  · rw [if_pos c3] at H
    have c3b0 : decide (1048576 < (wrap64 ((l0.length : Int) + (l1.length : Int)))) = true := decide_eq_true c3
    clear c3
    obtain rfl := Option.some.inj H
    go_enter Try.func8, Try.ntmps8
    go_wp2
    go_ret
    exact ⟨by first | rfl | (simp [errW_none, errW_some] <;> rfl) | (simp [*, errW_none, errW_some] <;> rfl), by repeat (first | (with_reducible first | exact HB.out | apply below_alloc | apply pw_below_drewN | apply below_drew1) | exact HB.out)⟩
  · rw [if_neg c3] at H
    have c3b0 : decide (1048576 < (wrap64 ((l0.length : Int) + (l1.length : Int)))) = false := decide_eq_false c3
    clear c3
    replace H := Option.bind_eq_some_iff.mp H
    obtain ⟨⟨t160, t161⟩, A40, H⟩ := H
    replace H : ((impl_UnlikeBits.f t160 t161).bind fun bt162 => ((spec_UnlikeBits.f t160 t161).bind fun bt164 => (if (bt162.2 != bt164.2) = true then (laws_FnLinear.j0 k l1 t160 t161 bt162.1 bt162.2 true) else (laws_FnLinear.j0 k l1 t160 t161 bt162.1 bt162.2 (bt162.1.toList != bt164.1.toList))))) = some r := H
    have A4 := Aside0.mk A40
    clear A40
    replace H := Option.bind_eq_some_iff.mp H
    obtain ⟨⟨t162, t163⟩, A50, H⟩ := H
    replace H : ((spec_UnlikeBits.f t160 t161).bind fun bt164 => (if (t163 != bt164.2) = true then (laws_FnLinear.j0 k l1 t160 t161 t162 t163 true) else (laws_FnLinear.j0 k l1 t160 t161 t162 t163 (t162.toList != bt164.1.toList)))) = some r := H
    have A5 := Aside0.mk A50
    clear A50
    replace H := Option.bind_eq_some_iff.mp H
    obtain ⟨⟨t164, t165⟩, A60, H⟩ := H
    replace H : (if (t163 != t165) = true then (laws_FnLinear.j0 k l1 t160 t161 t162 t163 true) else (laws_FnLinear.j0 k l1 t160 t161 t162 t163 (t162.toList != t164.toList))) = some r := H
    have A6 := Aside0.mk A60
    clear A60
    have HC7 := Aside0.mk H
    clear H
    go_enter Try.func8, Try.ntmps8
    go_upto_region 6 with (first | ((with_reducible refine gate_callee (f := 28) rfl ?_); refine goesL_ (some 51) rfl rfl Try.func28 (by kernel_rfl) rfl #[.slice A0 l0.length c0] rfl (by (try simp only [List.map_toArray, List.map_cons, List.map_nil]); first | done | rfl | (simp only [List.length_drop, List.length_take]; rfl)) ?_; (with_reducible refine (spec_DrawUnlikeBits.calls k _ _ l0 t160 t161 _ ?side1 ?side2 A4.out).mono ?_); (case side1 => repeat (first | exact HR0.out | (with_reducible refine Kd.C_alloc ?_ _) | (with_reducible refine Kd.C_drewN ?_ _) | (with_reducible refine Kd.C_drew ?_))); (case side2 => exact HC0.out); rintro e w8 ⟨rfl, hb⟩; refine ⟨_, rfl, ?_⟩; have n0_ := Aside0.mk (below_step (by repeat (first | (with_reducible first | exact HB.out | apply below_alloc | apply pw_below_drewN | apply below_drew1) | exact HB.out)) hb); clear HB; have HB := n0_; clear n0_; (try clear hb); (try clear hb2); (try clear hk); (try clear hi)) | ((with_reducible refine gate_callee (f := 29) rfl ?_); refine goesL_ (some 57) rfl rfl Try.func29 (by kernel_rfl) rfl #[.string t160, .string t161] rfl (by (try simp only [List.map_toArray, List.map_cons, List.map_nil]); first | done | rfl | (simp only [List.length_drop, List.length_take]; rfl)) ?_; (with_reducible refine (impl_UnlikeBits.calls t160 t161 t162 t163 _ A5.out).mono ?_); rintro e w9 ⟨rfl, hb⟩; refine ⟨_, rfl, ?_⟩; have n0_ := Aside0.mk (below_step (by repeat (first | (with_reducible first | exact HB.out | apply below_alloc | apply pw_below_drewN | apply below_drew1) | exact HB.out)) hb); clear HB; have HB := n0_; clear n0_; (try clear hb); (try clear hb2); (try clear hk); (try clear hi)) | ((with_reducible refine gate_callee (f := 30) rfl ?_); refine goesL_ (some 63) rfl rfl Try.func30 (by kernel_rfl) rfl #[.string t160, .string t161] rfl (by (try simp only [List.map_toArray, List.map_cons, List.map_nil]); first | done | rfl | (simp only [List.length_drop, List.length_take]; rfl)) ?_; (with_reducible refine (spec_UnlikeBits.calls t160 t161 t164 t165 _ A6.out).mono ?_); rintro e w10 ⟨rfl, hb⟩; refine ⟨_, rfl, ?_⟩; have n0_ := Aside0.mk (below_step (by repeat (first | (with_reducible first | exact HB.out | apply below_alloc | apply pw_below_drewN | apply below_drew1) | exact HB.out)) hb); clear HB; have HB := n0_; clear n0_; (try clear hb); (try clear hb2); (try clear hk); (try clear hi)))
    (try simp only [Act.put, List.setIfInBounds_toArray, List.set_cons_zero, List.set_cons_succ])
    go_cut [73] (fun v73 wc => ∃ (kq : Nat) (x73_6 : Bool), v73 = .bool x73_6 ∧ Aside0 (laws_FnLinear.j0 kq l1 t160 t161 t162 t163 x73_6 = some r) ∧ Aside0 (kq ≤ k) ∧ Aside0 (Below w.heap.size w wc))
    case first => as_aux_lemma =>
      have H := HC7.out
      clear HC7
      by_cases c11 : (t163 != t165) = true
      · rw [if_pos c11] at H
        have c11b0 : (t163 != t165) = true := c11
        (try (have c11b1 : decide (t163 = t165) = false := by simpa using c11))
        (try (have c11b2 : (t163 == t165) = false := by simpa using c11))
        (try (have c11b3 : ¬ (t163 = t165) := by simpa using c11))
        clear c11
        (first | rw [c11b0] | (simp only [i64_w, i32_w]; rw [c11b0]) | skip)
        have H' := Aside0.mk H
        clear H
        go_wp2
        go_meet
        case rel => exact ⟨_, (true), (by first | rfl | (simp; done) | (simp [*]; done)), H', ⟨by first | omega | exact Nat.le_refl _⟩, ⟨by repeat (first | (with_reducible first | exact HB.out | apply below_alloc | apply pw_below_drewN | apply below_drew1) | exact HB.out)⟩⟩
      · rw [if_neg c11] at H
        have c11b0 : (t163 != t165) = false := by simpa using c11
        (try (have c11b1 : decide (t163 = t165) = true := by simpa using c11))
        (try (have c11b2 : (t163 == t165) = true := by simpa using c11))
        clear c11
        (first | rw [c11b0] | (simp only [i64_w, i32_w]; rw [c11b0]) | skip)
        have H' := Aside0.mk H
        clear H
        go_wp2
        go_meet
        case rel => exact ⟨_, ((t162.toList != t164.toList)), (by first | rfl | (simp; done) | (simp [*]; done)), H', ⟨by first | omega | exact Nat.le_refl _⟩, ⟨by repeat (first | (with_reducible first | exact HB.out | apply below_alloc | apply pw_below_drewN | apply below_drew1) | exact HB.out)⟩⟩
    case rest => as_aux_lemma =>
      clear HC7
      try clear c1
      try clear c2
      try clear p2
      try clear c3
      try clear c3b0
      try clear p6
      try clear c8
      try clear c11
      try clear c11b0
      try clear c11b1
      try clear c11b2
      obtain ⟨kq, x73_6, rfl, HA, HJ6, HB⟩ := hcut
      cases kq with
      | zero => exact absurd HA.out (by simp [laws_FnLinear.j0])
      | succ kj6 =>
        have H := HA.out
        clear HA
        simp only [laws_FnLinear.j0] at H
        by_cases c12 : x73_6 = true
        · subst c12
          have H1 : (some false) = some r := by rw [if_pos rfl] at H; exact H
          clear H
          have H := H1
          clear H1
          obtain rfl := Option.some.inj H
          go_wp2
          go_ret
          exact ⟨by first | rfl | (simp [errW_none, errW_some] <;> rfl) | (simp [*, errW_none, errW_some] <;> rfl), by repeat (first | (with_reducible first | exact HB.out | apply below_alloc | apply pw_below_drewN | apply below_drew1) | exact HB.out)⟩
        · replace c12 := Bool.eq_false_iff.mpr c12
          subst c12
          have H1 : (if t163 = true then ((impl_SumOf.f t160).bind fun bt166 => ((impl_SumOf.f t161).bind fun bt168 => ((impl_SumOf.f t162).bind fun bt170 => ((laws_numberOf.f kj6 l1).bind fun t172 => (if (wrap64 ((t160.size : Int) + 1)) = 0 then (none) else (if 0 ≤ (Int.tmod t172 (wrap64 ((t160.size : Int) + 1))) then (if (Int.tmod t172 (wrap64 ((t160.size : Int) + 1))) ≤ (t160.size : Int) then ((impl_SumOf.f (t160.extract 0 ((Int.tmod t172 (wrap64 ((t160.size : Int) + 1))) : Int).toNat)).bind fun bt173 => ((impl_SumOn.f bt173.1 (t160.extract ((Int.tmod t172 (wrap64 ((t160.size : Int) + 1))) : Int).toNat t160.size)).bind fun bt175 => (if bt166.2 = true then (if bt168.2 = true then (if bt170.2 = true then (if bt170.1 = (Go.bits .xor .i64 bt166.1 bt168.1) then (if bt173.2 = true then (if bt175.2 = true then (laws_FnLinear.j1 kj6 l1 t160 bt166.1 (Int.tmod t172 (wrap64 ((t160.size : Int) + 1))) bt173.1 (bt175.1 != bt166.1)) else (laws_FnLinear.j1 kj6 l1 t160 bt166.1 (Int.tmod t172 (wrap64 ((t160.size : Int) + 1))) bt173.1 true)) else (laws_FnLinear.j1 kj6 l1 t160 bt166.1 (Int.tmod t172 (wrap64 ((t160.size : Int) + 1))) bt173.1 true)) else (laws_FnLinear.j1 kj6 l1 t160 bt166.1 (Int.tmod t172 (wrap64 ((t160.size : Int) + 1))) bt173.1 true)) else (laws_FnLinear.j1 kj6 l1 t160 bt166.1 (Int.tmod t172 (wrap64 ((t160.size : Int) + 1))) bt173.1 true)) else (laws_FnLinear.j1 kj6 l1 t160 bt166.1 (Int.tmod t172 (wrap64 ((t160.size : Int) + 1))) bt173.1 true)) else (laws_FnLinear.j1 kj6 l1 t160 bt166.1 (Int.tmod t172 (wrap64 ((t160.size : Int) + 1))) bt173.1 true)))) else (none)) else (none))))))) else (laws_FnLinear.j2 kj6 l1)) = some r := by rw [if_neg (show ¬ (false = true) by decide)] at H; exact H
          clear H
          have H := H1
          clear H1
          have HC13 := Aside0.mk H
          clear H
          go_upto_if 74 with (fail)
          go_cut [] (fun wc => ∃ (kq : Nat), Aside0 (laws_FnLinear.j2 kq l1 = some r) ∧ Aside0 (kq ≤ kj6) ∧ Aside0 (Below w.heap.size w wc))
          case first => as_aux_lemma =>
            have H := HC13.out
            clear HC13
            by_cases c14 : t163 = true
            · subst c14
              have H1 : ((impl_SumOf.f t160).bind fun bt166 => ((impl_SumOf.f t161).bind fun bt168 => ((impl_SumOf.f t162).bind fun bt170 => ((laws_numberOf.f kj6 l1).bind fun t172 => (if (wrap64 ((t160.size : Int) + 1)) = 0 then (none) else (if 0 ≤ (Int.tmod t172 (wrap64 ((t160.size : Int) + 1))) then (if (Int.tmod t172 (wrap64 ((t160.size : Int) + 1))) ≤ (t160.size : Int) then ((impl_SumOf.f (t160.extract 0 ((Int.tmod t172 (wrap64 ((t160.size : Int) + 1))) : Int).toNat)).bind fun bt173 => ((impl_SumOn.f bt173.1 (t160.extract ((Int.tmod t172 (wrap64 ((t160.size : Int) + 1))) : Int).toNat t160.size)).bind fun bt175 => (if bt166.2 = true then (if bt168.2 = true then (if bt170.2 = true then (if bt170.1 = (Go.bits .xor .i64 bt166.1 bt168.1) then (if bt173.2 = true then (if bt175.2 = true then (laws_FnLinear.j1 kj6 l1 t160 bt166.1 (Int.tmod t172 (wrap64 ((t160.size : Int) + 1))) bt173.1 (bt175.1 != bt166.1)) else (laws_FnLinear.j1 kj6 l1 t160 bt166.1 (Int.tmod t172 (wrap64 ((t160.size : Int) + 1))) bt173.1 true)) else (laws_FnLinear.j1 kj6 l1 t160 bt166.1 (Int.tmod t172 (wrap64 ((t160.size : Int) + 1))) bt173.1 true)) else (laws_FnLinear.j1 kj6 l1 t160 bt166.1 (Int.tmod t172 (wrap64 ((t160.size : Int) + 1))) bt173.1 true)) else (laws_FnLinear.j1 kj6 l1 t160 bt166.1 (Int.tmod t172 (wrap64 ((t160.size : Int) + 1))) bt173.1 true)) else (laws_FnLinear.j1 kj6 l1 t160 bt166.1 (Int.tmod t172 (wrap64 ((t160.size : Int) + 1))) bt173.1 true)) else (laws_FnLinear.j1 kj6 l1 t160 bt166.1 (Int.tmod t172 (wrap64 ((t160.size : Int) + 1))) bt173.1 true)))) else (none)) else (none))))))) = some r := by rw [if_pos rfl] at H; exact H
              clear H
              have H := H1
              clear H1
              replace H := Option.bind_eq_some_iff.mp H
              obtain ⟨⟨t166, t167⟩, A150, H⟩ := H
              replace H : ((impl_SumOf.f t161).bind fun bt168 => ((impl_SumOf.f t162).bind fun bt170 => ((laws_numberOf.f kj6 l1).bind fun t172 => (if (wrap64 ((t160.size : Int) + 1)) = 0 then (none) else (if 0 ≤ (Int.tmod t172 (wrap64 ((t160.size : Int) + 1))) then (if (Int.tmod t172 (wrap64 ((t160.size : Int) + 1))) ≤ (t160.size : Int) then ((impl_SumOf.f (t160.extract 0 ((Int.tmod t172 (wrap64 ((t160.size : Int) + 1))) : Int).toNat)).bind fun bt173 => ((impl_SumOn.f bt173.1 (t160.extract ((Int.tmod t172 (wrap64 ((t160.size : Int) + 1))) : Int).toNat t160.size)).bind fun bt175 => (if t167 = true then (if bt168.2 = true then (if bt170.2 = true then (if bt170.1 = (Go.bits .xor .i64 t166 bt168.1) then (if bt173.2 = true then (if bt175.2 = true then (laws_FnLinear.j1 kj6 l1 t160 t166 (Int.tmod t172 (wrap64 ((t160.size : Int) + 1))) bt173.1 (bt175.1 != t166)) else (laws_FnLinear.j1 kj6 l1 t160 t166 (Int.tmod t172 (wrap64 ((t160.size : Int) + 1))) bt173.1 true)) else (laws_FnLinear.j1 kj6 l1 t160 t166 (Int.tmod t172 (wrap64 ((t160.size : Int) + 1))) bt173.1 true)) else (laws_FnLinear.j1 kj6 l1 t160 t166 (Int.tmod t172 (wrap64 ((t160.size : Int) + 1))) bt173.1 true)) else (laws_FnLinear.j1 kj6 l1 t160 t166 (Int.tmod t172 (wrap64 ((t160.size : Int) + 1))) bt173.1 true)) else (laws_FnLinear.j1 kj6 l1 t160 t166 (Int.tmod t172 (wrap64 ((t160.size : Int) + 1))) bt173.1 true)) else (laws_FnLinear.j1 kj6 l1 t160 t166 (Int.tmod t172 (wrap64 ((t160.size : Int) + 1))) bt173.1 true)))) else (none)) else (none)))))) = some r := H
              have A15 := Aside0.mk A150
              clear A150
              replace H := Option.bind_eq_some_iff.mp H
              obtain ⟨⟨t168, t169⟩, A160, H⟩ := H
              replace H : ((impl_SumOf.f t162).bind fun bt170 => ((laws_numberOf.f kj6 l1).bind fun t172 => (if (wrap64 ((t160.size : Int) + 1)) = 0 then (none) else (if 0 ≤ (Int.tmod t172 (wrap64 ((t160.size : Int) + 1))) then (if (Int.tmod t172 (wrap64 ((t160.size : Int) + 1))) ≤ (t160.size : Int) then ((impl_SumOf.f (t160.extract 0 ((Int.tmod t172 (wrap64 ((t160.size : Int) + 1))) : Int).toNat)).bind fun bt173 => ((impl_SumOn.f bt173.1 (t160.extract ((Int.tmod t172 (wrap64 ((t160.size : Int) + 1))) : Int).toNat t160.size)).bind fun bt175 => (if t167 = true then (if t169 = true then (if bt170.2 = true then (if bt170.1 = (Go.bits .xor .i64 t166 t168) then (if bt173.2 = true then (if bt175.2 = true then (laws_FnLinear.j1 kj6 l1 t160 t166 (Int.tmod t172 (wrap64 ((t160.size : Int) + 1))) bt173.1 (bt175.1 != t166)) else (laws_FnLinear.j1 kj6 l1 t160 t166 (Int.tmod t172 (wrap64 ((t160.size : Int) + 1))) bt173.1 true)) else (laws_FnLinear.j1 kj6 l1 t160 t166 (Int.tmod t172 (wrap64 ((t160.size : Int) + 1))) bt173.1 true)) else (laws_FnLinear.j1 kj6 l1 t160 t166 (Int.tmod t172 (wrap64 ((t160.size : Int) + 1))) bt173.1 true)) else (laws_FnLinear.j1 kj6 l1 t160 t166 (Int.tmod t172 (wrap64 ((t160.size : Int) + 1))) bt173.1 true)) else (laws_FnLinear.j1 kj6 l1 t160 t166 (Int.tmod t172 (wrap64 ((t160.size : Int) + 1))) bt173.1 true)) else (laws_FnLinear.j1 kj6 l1 t160 t166 (Int.tmod t172 (wrap64 ((t160.size : Int) + 1))) bt173.1 true)))) else (none)) else (none))))) = some r := H
              have A16 := Aside0.mk A160
              clear A160
              replace H := Option.bind_eq_some_iff.mp H
              obtain ⟨⟨t170, t171⟩, A170, H⟩ := H
              replace H : ((laws_numberOf.f kj6 l1).bind fun t172 => (if (wrap64 ((t160.size : Int) + 1)) = 0 then (none) else (if 0 ≤ (Int.tmod t172 (wrap64 ((t160.size : Int) + 1))) then (if (Int.tmod t172 (wrap64 ((t160.size : Int) + 1))) ≤ (t160.size : Int) then ((impl_SumOf.f (t160.extract 0 ((Int.tmod t172 (wrap64 ((t160.size : Int) + 1))) : Int).toNat)).bind fun bt173 => ((impl_SumOn.f bt173.1 (t160.extract ((Int.tmod t172 (wrap64 ((t160.size : Int) + 1))) : Int).toNat t160.size)).bind fun bt175 => (if t167 = true then (if t169 = true then (if t171 = true then (if t170 = (Go.bits .xor .i64 t166 t168) then (if bt173.2 = true then (if bt175.2 = true then (laws_FnLinear.j1 kj6 l1 t160 t166 (Int.tmod t172 (wrap64 ((t160.size : Int) + 1))) bt173.1 (bt175.1 != t166)) else (laws_FnLinear.j1 kj6 l1 t160 t166 (Int.tmod t172 (wrap64 ((t160.size : Int) + 1))) bt173.1 true)) else (laws_FnLinear.j1 kj6 l1 t160 t166 (Int.tmod t172 (wrap64 ((t160.size : Int) + 1))) bt173.1 true)) else (laws_FnLinear.j1 kj6 l1 t160 t166 (Int.tmod t172 (wrap64 ((t160.size : Int) + 1))) bt173.1 true)) else (laws_FnLinear.j1 kj6 l1 t160 t166 (Int.tmod t172 (wrap64 ((t160.size : Int) + 1))) bt173.1 true)) else (laws_FnLinear.j1 kj6 l1 t160 t166 (Int.tmod t172 (wrap64 ((t160.size : Int) + 1))) bt173.1 true)) else (laws_FnLinear.j1 kj6 l1 t160 t166 (Int.tmod t172 (wrap64 ((t160.size : Int) + 1))) bt173.1 true)))) else (none)) else (none)))) = some r := H
              have A17 := Aside0.mk A170
              clear A170
              replace H := Option.bind_eq_some_iff.mp H
              obtain ⟨t172, A180, H⟩ := H
              replace H : (if (wrap64 ((t160.size : Int) + 1)) = 0 then (none) else (if 0 ≤ (Int.tmod t172 (wrap64 ((t160.size : Int) + 1))) then (if (Int.tmod t172 (wrap64 ((t160.size : Int) + 1))) ≤ (t160.size : Int) then ((impl_SumOf.f (t160.extract 0 ((Int.tmod t172 (wrap64 ((t160.size : Int) + 1))) : Int).toNat)).bind fun bt173 => ((impl_SumOn.f bt173.1 (t160.extract ((Int.tmod t172 (wrap64 ((t160.size : Int) + 1))) : Int).toNat t160.size)).bind fun bt175 => (if t167 = true then (if t169 = true then (if t171 = true then (if t170 = (Go.bits .xor .i64 t166 t168) then (if bt173.2 = true then (if bt175.2 = true then (laws_FnLinear.j1 kj6 l1 t160 t166 (Int.tmod t172 (wrap64 ((t160.size : Int) + 1))) bt173.1 (bt175.1 != t166)) else (laws_FnLinear.j1 kj6 l1 t160 t166 (Int.tmod t172 (wrap64 ((t160.size : Int) + 1))) bt173.1 true)) else (laws_FnLinear.j1 kj6 l1 t160 t166 (Int.tmod t172 (wrap64 ((t160.size : Int) + 1))) bt173.1 true)) else (laws_FnLinear.j1 kj6 l1 t160 t166 (Int.tmod t172 (wrap64 ((t160.size : Int) + 1))) bt173.1 true)) else (laws_FnLinear.j1 kj6 l1 t160 t166 (Int.tmod t172 (wrap64 ((t160.size : Int) + 1))) bt173.1 true)) else (laws_FnLinear.j1 kj6 l1 t160 t166 (Int.tmod t172 (wrap64 ((t160.size : Int) + 1))) bt173.1 true)) else (laws_FnLinear.j1 kj6 l1 t160 t166 (Int.tmod t172 (wrap64 ((t160.size : Int) + 1))) bt173.1 true)))) else (none)) else (none))) = some r := H
              have A18 := Aside0.mk A180
              clear A180
              by_cases c19 : (wrap64 ((t160.size : Int) + 1)) = 0
              · rw [if_pos c19] at H
                exact absurd H (by simp)
              · rw [if_neg c19] at H
                have c19b0 : ((wrap64 ((t160.size : Int) + 1)) == 0) = false := beq_eq_false_iff_ne.mpr c19
                have c19b1 : ((wrap64 ((t160.size : Int) + 1)) != 0) = true := bne_iff_ne.mpr c19
                (first | rw [c19b0] | (simp only [i64_w, i32_w]; rw [c19b0]) | skip)
                obtain ⟨ji20, hji20⟩ : ∃ j_ : Int, (Int.tmod t172 (wrap64 ((t160.size : Int) + 1))) = j_ := ⟨_, rfl⟩
                replace H : (if 0 ≤ (ji20) then (if (ji20) ≤ (t160.size : Int) then ((impl_SumOf.f (t160.extract 0 ((ji20) : Int).toNat)).bind fun bt173 => ((impl_SumOn.f bt173.1 (t160.extract ((ji20) : Int).toNat t160.size)).bind fun bt175 => (if t167 = true then (if t169 = true then (if t171 = true then (if t170 = (Go.bits .xor .i64 t166 t168) then (if bt173.2 = true then (if bt175.2 = true then (laws_FnLinear.j1 kj6 l1 t160 t166 ji20 bt173.1 (bt175.1 != t166)) else (laws_FnLinear.j1 kj6 l1 t160 t166 ji20 bt173.1 true)) else (laws_FnLinear.j1 kj6 l1 t160 t166 ji20 bt173.1 true)) else (laws_FnLinear.j1 kj6 l1 t160 t166 ji20 bt173.1 true)) else (laws_FnLinear.j1 kj6 l1 t160 t166 ji20 bt173.1 true)) else (laws_FnLinear.j1 kj6 l1 t160 t166 ji20 bt173.1 true)) else (laws_FnLinear.j1 kj6 l1 t160 t166 ji20 bt173.1 true)))) else (none)) else (none)) = some r := by first | (rw [hji20] at H; exact H) | (simp only [hji20] at H ⊢; exact H)
                (try rw [hji20] at A15)
                (try rw [hji20] at A16)
                (try rw [hji20] at A17)
                (try rw [hji20] at A18)
                by_cases c21 : 0 ≤ (ji20)
                · rw [if_pos c21] at H
                  have c21b0 := eq_true c21
                  have c21b1 : decide (0 ≤ (ji20)) = true := decide_eq_true c21
                  clear c21
                  by_cases c22 : (ji20) ≤ (t160.size : Int)
                  · rw [if_pos c22] at H
                    have c22b0 := eq_true c22
                    have c22b1 : decide ((ji20) ≤ (t160.size : Int)) = true := decide_eq_true c22
                    clear c22
                    replace H := Option.bind_eq_some_iff.mp H
                    obtain ⟨⟨t173, t174⟩, A230, H⟩ := H
                    replace H : ((impl_SumOn.f t173 (t160.extract ((ji20) : Int).toNat t160.size)).bind fun bt175 => (if t167 = true then (if t169 = true then (if t171 = true then (if t170 = (Go.bits .xor .i64 t166 t168) then (if t174 = true then (if bt175.2 = true then (laws_FnLinear.j1 kj6 l1 t160 t166 ji20 t173 (bt175.1 != t166)) else (laws_FnLinear.j1 kj6 l1 t160 t166 ji20 t173 true)) else (laws_FnLinear.j1 kj6 l1 t160 t166 ji20 t173 true)) else (laws_FnLinear.j1 kj6 l1 t160 t166 ji20 t173 true)) else (laws_FnLinear.j1 kj6 l1 t160 t166 ji20 t173 true)) else (laws_FnLinear.j1 kj6 l1 t160 t166 ji20 t173 true)) else (laws_FnLinear.j1 kj6 l1 t160 t166 ji20 t173 true))) = some r := H
                    have A23 := Aside0.mk A230
                    clear A230
                    have c24b0 := eq_true (of_decide_eq_true (by first | (with_reducible assumption) | assumption) : 0 ≤ (ji20))
                    have c25b0 := eq_true (of_decide_eq_true (by first | (with_reducible assumption) | assumption) : (ji20) ≤ (t160.size : Int))
                    replace H := Option.bind_eq_some_iff.mp H
                    obtain ⟨⟨t175, t176⟩, A260, H⟩ := H
                    replace H : (if t167 = true then (if t169 = true then (if t171 = true then (if t170 = (Go.bits .xor .i64 t166 t168) then (if t174 = true then (if t176 = true then (laws_FnLinear.j1 kj6 l1 t160 t166 ji20 t173 (t175 != t166)) else (laws_FnLinear.j1 kj6 l1 t160 t166 ji20 t173 true)) else (laws_FnLinear.j1 kj6 l1 t160 t166 ji20 t173 true)) else (laws_FnLinear.j1 kj6 l1 t160 t166 ji20 t173 true)) else (laws_FnLinear.j1 kj6 l1 t160 t166 ji20 t173 true)) else (laws_FnLinear.j1 kj6 l1 t160 t166 ji20 t173 true)) else (laws_FnLinear.j1 kj6 l1 t160 t166 ji20 t173 true)) = some r := H
                    have A26 := Aside0.mk A260
                    clear A260
                    have HC27 := Aside0.mk H
                    clear H
                    go_upto_region 15 with (first | ((with_reducible refine gate_callee (f := 31) rfl ?_); refine goesL_ (some 77) rfl rfl Try.func31 (by kernel_rfl) rfl #[.string t160] rfl (by (try simp only [List.map_toArray, List.map_cons, List.map_nil]); first | done | rfl | (simp only [List.length_drop, List.length_take]; rfl)) ?_; (with_reducible refine (impl_SumOf.calls t160 t166 t167 _ A15.out).mono ?_); rintro e w28 ⟨rfl, hb⟩; refine ⟨_, rfl, ?_⟩; have n0_ := Aside0.mk (below_step (by repeat (first | (with_reducible first | exact HB.out | apply below_alloc | apply pw_below_drewN | apply below_drew1) | exact HB.out)) hb); clear HB; have HB := n0_; clear n0_; (try clear hb); (try clear hb2); (try clear hk); (try clear hi)) | ((with_reducible refine gate_callee (f := 31) rfl ?_); refine goesL_ (some 82) rfl rfl Try.func31 (by kernel_rfl) rfl #[.string t161] rfl (by (try simp only [List.map_toArray, List.map_cons, List.map_nil]); first | done | rfl | (simp only [List.length_drop, List.length_take]; rfl)) ?_; (with_reducible refine (impl_SumOf.calls t161 t168 t169 _ A16.out).mono ?_); rintro e w29 ⟨rfl, hb⟩; refine ⟨_, rfl, ?_⟩; have n0_ := Aside0.mk (below_step (by repeat (first | (with_reducible first | exact HB.out | apply below_alloc | apply pw_below_drewN | apply below_drew1) | exact HB.out)) hb); clear HB; have HB := n0_; clear n0_; (try clear hb); (try clear hb2); (try clear hk); (try clear hi)) | ((with_reducible refine gate_callee (f := 31) rfl ?_); refine goesL_ (some 87) rfl rfl Try.func31 (by kernel_rfl) rfl #[.string t162] rfl (by (try simp only [List.map_toArray, List.map_cons, List.map_nil]); first | done | rfl | (simp only [List.length_drop, List.length_take]; rfl)) ?_; (with_reducible refine (impl_SumOf.calls t162 t170 t171 _ A17.out).mono ?_); rintro e w30 ⟨rfl, hb⟩; refine ⟨_, rfl, ?_⟩; have n0_ := Aside0.mk (below_step (by repeat (first | (with_reducible first | exact HB.out | apply below_alloc | apply pw_below_drewN | apply below_drew1) | exact HB.out)) hb); clear HB; have HB := n0_; clear n0_; (try clear hb); (try clear hb2); (try clear hk); (try clear hi)) | ((with_reducible refine gate_callee (f := 32) rfl ?_); refine goesL_ (some 91) rfl rfl Try.func32 (by kernel_rfl) rfl #[.slice A1 l1.length c1] rfl (by (try simp only [List.map_toArray, List.map_cons, List.map_nil]); first | done | rfl | (simp only [List.length_drop, List.length_take]; rfl)) ?_; (with_reducible refine (laws_numberOf.calls kj6 _ _ l1 t172 _ ?side1 ?side2 A18.out).mono ?_); (case side1 => repeat (first | exact (Kd.C_below HR1.out HB.out) | (with_reducible refine Kd.C_alloc ?_ _) | (with_reducible refine Kd.C_drewN ?_ _) | (with_reducible refine Kd.C_drew ?_))); (case side2 => exact HC1.out); rintro e w' ⟨rfl, ⟨nd, rfl⟩⟩; refine ⟨_, rfl, ?_⟩) | ((with_reducible refine gate_callee (f := 31) rfl ?_); refine goesL_ (some 100) rfl rfl Try.func31 (by kernel_rfl) rfl #[.string (t160.extract 0 ((ji20) : Int).toNat)] rfl (by (try simp only [List.map_toArray, List.map_cons, List.map_nil]); first | done | (simp only [hji20]; rfl) | rfl | (simp only [List.length_drop, List.length_take]; rfl)) ?_; (with_reducible refine (impl_SumOf.calls (t160.extract 0 ((ji20) : Int).toNat) t173 t174 _ A23.out).mono ?_); rintro e w31 ⟨rfl, hb⟩; refine ⟨_, rfl, ?_⟩; have n0_ := Aside0.mk (below_step (by repeat (first | (with_reducible first | exact HB.out | apply below_alloc | apply pw_below_drewN | apply below_drew1) | exact HB.out)) hb); clear HB; have HB := n0_; clear n0_; (try clear hb); (try clear hb2); (try clear hk); (try clear hi)) | ((with_reducible refine gate_callee (f := 33) rfl ?_); refine goesL_ (some 108) rfl rfl Try.func33 (by kernel_rfl) rfl #[.int .i64 t173, .string (t160.extract ((ji20) : Int).toNat t160.size)] rfl (by (try simp only [List.map_toArray, List.map_cons, List.map_nil]); first | done | (simp only [hji20]; rfl) | rfl | (simp only [List.length_drop, List.length_take]; rfl)) ?_; (with_reducible refine (impl_SumOn.calls t173 (t160.extract ((ji20) : Int).toNat t160.size) t175 t176 _ A26.out).mono ?_); rintro e w32 ⟨rfl, hb⟩; refine ⟨_, rfl, ?_⟩; have n0_ := Aside0.mk (below_step (by repeat (first | (with_reducible first | exact HB.out | apply below_alloc | apply pw_below_drewN | apply below_drew1) | exact HB.out)) hb); clear HB; have HB := n0_; clear n0_; (try clear hb); (try clear hb2); (try clear hk); (try clear hi)))
                    (try simp only [Act.put, List.setIfInBounds_toArray, List.set_cons_zero, List.set_cons_succ])
                    go_cut [140] (fun v140 wc => ∃ (kq : Nat) (x140_26 : Bool), v140 = .bool x140_26 ∧ Aside0 (laws_FnLinear.j1 kq l1 t160 t166 ji20 t173 x140_26 = some r) ∧ Aside0 (kq ≤ kj6) ∧ Aside0 (Below w.heap.size w wc))
                    case first => as_aux_lemma =>
                      have H := HC27.out
                      clear HC27
                      by_cases c33 : t167 = true
                      · subst c33
                        have H1 : (if t169 = true then (if t171 = true then (if t170 = (Go.bits .xor .i64 t166 t168) then (if t174 = true then (if t176 = true then (laws_FnLinear.j1 kj6 l1 t160 t166 ji20 t173 (t175 != t166)) else (laws_FnLinear.j1 kj6 l1 t160 t166 ji20 t173 true)) else (laws_FnLinear.j1 kj6 l1 t160 t166 ji20 t173 true)) else (laws_FnLinear.j1 kj6 l1 t160 t166 ji20 t173 true)) else (laws_FnLinear.j1 kj6 l1 t160 t166 ji20 t173 true)) else (laws_FnLinear.j1 kj6 l1 t160 t166 ji20 t173 true)) = some r := by rw [if_pos rfl] at H; exact H
                        clear H
                        have H := H1
                        clear H1
                        by_cases c34 : t169 = true
                        · subst c34
                          have H1 : (if t171 = true then (if t170 = (Go.bits .xor .i64 t166 t168) then (if t174 = true then (if t176 = true then (laws_FnLinear.j1 kj6 l1 t160 t166 ji20 t173 (t175 != t166)) else (laws_FnLinear.j1 kj6 l1 t160 t166 ji20 t173 true)) else (laws_FnLinear.j1 kj6 l1 t160 t166 ji20 t173 true)) else (laws_FnLinear.j1 kj6 l1 t160 t166 ji20 t173 true)) else (laws_FnLinear.j1 kj6 l1 t160 t166 ji20 t173 true)) = some r := by rw [if_pos rfl] at H; exact H
                          clear H
                          have H := H1
                          clear H1
                          by_cases c35 : t171 = true
                          · subst c35
                            have H1 : (if t170 = (Go.bits .xor .i64 t166 t168) then (if t174 = true then (if t176 = true then (laws_FnLinear.j1 kj6 l1 t160 t166 ji20 t173 (t175 != t166)) else (laws_FnLinear.j1 kj6 l1 t160 t166 ji20 t173 true)) else (laws_FnLinear.j1 kj6 l1 t160 t166 ji20 t173 true)) else (laws_FnLinear.j1 kj6 l1 t160 t166 ji20 t173 true)) = some r := by rw [if_pos rfl] at H; exact H
                            clear H
                            have H := H1
                            clear H1
                            by_cases c36 : t170 = (Go.bits .xor .i64 t166 t168)
                            · rw [if_pos c36] at H
                              have c36b0 : (t170 == (Go.bits .xor .i64 t166 t168)) = true := beq_iff_eq.mpr c36
                              have c36b1 : (t170 != (Go.bits .xor .i64 t166 t168)) = false := bne_eq_false_iff_eq.mpr c36
                              clear c36
                              (first | rw [c36b0] | (simp only [i64_w, i32_w]; rw [c36b0]) | skip)
                              by_cases c37 : t174 = true
                              · subst c37
                                have H1 : (if t176 = true then (laws_FnLinear.j1 kj6 l1 t160 t166 ji20 t173 (t175 != t166)) else (laws_FnLinear.j1 kj6 l1 t160 t166 ji20 t173 true)) = some r := by rw [if_pos rfl] at H; exact H
                                clear H
                                have H := H1
                                clear H1
                                by_cases c38 : t176 = true
                                · subst c38
                                  have H1 : (laws_FnLinear.j1 kj6 l1 t160 t166 ji20 t173 (t175 != t166)) = some r := by rw [if_pos rfl] at H; exact H
                                  clear H
                                  have H := H1
                                  clear H1
                                  have H' := Aside0.mk H
                                  clear H
                                  go_wp2
                                  go_meet
                                  case rel => exact ⟨_, ((t175 != t166)), (by first | rfl | (simp; done) | (simp [*]; done)), H', ⟨by have := HJ6.out; first | omega | exact Nat.le_refl _⟩, ⟨by repeat (first | (with_reducible first | exact HB.out | apply below_alloc | apply pw_below_drewN | apply below_drew1) | exact HB.out)⟩⟩
                                · replace c38 := Bool.eq_false_iff.mpr c38
                                  subst c38
                                  have H1 : (laws_FnLinear.j1 kj6 l1 t160 t166 ji20 t173 true) = some r := by rw [if_neg (show ¬ (false = true) by decide)] at H; exact H
                                  clear H
                                  have H := H1
                                  clear H1
                                  have H' := Aside0.mk H
                                  clear H
                                  go_wp2
                                  go_meet
                                  case rel => exact ⟨_, (true), (by first | rfl | (simp; done) | (simp [*]; done)), H', ⟨by have := HJ6.out; first | omega | exact Nat.le_refl _⟩, ⟨by repeat (first | (with_reducible first | exact HB.out | apply below_alloc | apply pw_below_drewN | apply below_drew1) | exact HB.out)⟩⟩
                              · replace c37 := Bool.eq_false_iff.mpr c37
                                subst c37
                                have H1 : (laws_FnLinear.j1 kj6 l1 t160 t166 ji20 t173 true) = some r := by rw [if_neg (show ¬ (false = true) by decide)] at H; exact H
                                clear H
                                have H := H1
                                clear H1
                                have H' := Aside0.mk H
                                clear H
                                go_wp2
                                go_meet
                                case rel => exact ⟨_, (true), (by first | rfl | (simp; done) | (simp [*]; done)), H', ⟨by have := HJ6.out; first | omega | exact Nat.le_refl _⟩, ⟨by repeat (first | (with_reducible first | exact HB.out | apply below_alloc | apply pw_below_drewN | apply below_drew1) | exact HB.out)⟩⟩
                            · rw [if_neg c36] at H
                              have c36b0 : (t170 == (Go.bits .xor .i64 t166 t168)) = false := beq_eq_false_iff_ne.mpr c36
                              have c36b1 : (t170 != (Go.bits .xor .i64 t166 t168)) = true := bne_iff_ne.mpr c36
                              (first | rw [c36b0] | (simp only [i64_w, i32_w]; rw [c36b0]) | skip)
                              have H' := Aside0.mk H
                              clear H
                              go_wp2
                              go_meet
                              case rel => exact ⟨_, (true), (by first | rfl | (simp; done) | (simp [*]; done)), H', ⟨by have := HJ6.out; first | omega | exact Nat.le_refl _⟩, ⟨by repeat (first | (with_reducible first | exact HB.out | apply below_alloc | apply pw_below_drewN | apply below_drew1) | exact HB.out)⟩⟩
                          · replace c35 := Bool.eq_false_iff.mpr c35
                            subst c35
                            have H1 : (laws_FnLinear.j1 kj6 l1 t160 t166 ji20 t173 true) = some r := by rw [if_neg (show ¬ (false = true) by decide)] at H; exact H
                            clear H
                            have H := H1
                            clear H1
                            have H' := Aside0.mk H
                            clear H
                            go_wp2
                            go_meet
                            case rel => exact ⟨_, (true), (by first | rfl | (simp; done) | (simp [*]; done)), H', ⟨by have := HJ6.out; first | omega | exact Nat.le_refl _⟩, ⟨by repeat (first | (with_reducible first | exact HB.out | apply below_alloc | apply pw_below_drewN | apply below_drew1) | exact HB.out)⟩⟩
                        · replace c34 := Bool.eq_false_iff.mpr c34
                          subst c34
                          have H1 : (laws_FnLinear.j1 kj6 l1 t160 t166 ji20 t173 true) = some r := by rw [if_neg (show ¬ (false = true) by decide)] at H; exact H
                          clear H
                          have H := H1
                          clear H1
                          have H' := Aside0.mk H
                          clear H
                          go_wp2
                          go_meet
                          case rel => exact ⟨_, (true), (by first | rfl | (simp; done) | (simp [*]; done)), H', ⟨by have := HJ6.out; first | omega | exact Nat.le_refl _⟩, ⟨by repeat (first | (with_reducible first | exact HB.out | apply below_alloc | apply pw_below_drewN | apply below_drew1) | exact HB.out)⟩⟩
                      · replace c33 := Bool.eq_false_iff.mpr c33
                        subst c33
                        have H1 : (laws_FnLinear.j1 kj6 l1 t160 t166 ji20 t173 true) = some r := by rw [if_neg (show ¬ (false = true) by decide)] at H; exact H
                        clear H
                        have H := H1
                        clear H1
                        have H' := Aside0.mk H
                        clear H
                        go_wp2
                        go_meet
                        case rel => exact ⟨_, (true), (by first | rfl | (simp; done) | (simp [*]; done)), H', ⟨by have := HJ6.out; first | omega | exact Nat.le_refl _⟩, ⟨by repeat (first | (with_reducible first | exact HB.out | apply below_alloc | apply pw_below_drewN | apply below_drew1) | exact HB.out)⟩⟩
                    case rest => as_aux_lemma =>
                      clear HC27
                      try clear c1
                      try clear c2
                      try clear p2
                      try clear c3
                      try clear c3b0
                      try clear p6
                      try clear c8
                      try clear c11
                      try clear c11b0
                      try clear c11b1
                      try clear c11b2
                      try clear c12
                      try clear c14
                      try clear c19
                      try clear c19b0
                      try clear c19b1
                      try clear c21
                      try clear c21b0
                      try clear c21b1
                      try clear c22
                      try clear c22b0
                      try clear c22b1
                      try clear c24
                      try clear c24b0
                      try clear c25
                      try clear c25b0
                      try clear c28
                      try clear c29
                      try clear c30
                      try clear c31
                      try clear c32
                      try clear c33
                      try clear c34
                      try clear c35
                      try clear c36
                      try clear c36b0
                      try clear c36b1
                      try clear c37
                      try clear c38
                      try clear p2
                      try clear p6
                      obtain ⟨kq, x140_26, rfl, HA, HJ26, HB⟩ := hcut
                      cases kq with
                      | zero => exact absurd HA.out (by simp [laws_FnLinear.j1])
                      | succ kj26 =>
                        have H := HA.out
                        clear HA
                        simp only [laws_FnLinear.j1] at H
                        by_cases c39 : x140_26 = true
                        · subst c39
                          have H1 : (some false) = some r := by rw [if_pos rfl] at H; exact H
                          clear H
                          have H := H1
                          clear H1
                          obtain rfl := Option.some.inj H
                          go_wp2
                          go_ret
                          exact ⟨by first | rfl | (simp [errW_none, errW_some] <;> rfl) | (simp only [← hji20]; first | rfl | (simp [errW_none, errW_some] <;> rfl)) | (simp [*, errW_none, errW_some] <;> rfl), by repeat (first | (with_reducible first | exact HB.out | apply below_alloc | apply pw_below_drewN | apply below_drew1) | exact HB.out)⟩
                        · replace c39 := Bool.eq_false_iff.mpr c39
                          subst c39
                          have H1 : ((impl_SumZeros.f kj26 t173 (wrap64 ((t160.size : Int) - ji20))).bind fun bt177 => (if 0 ≤ ji20 then (if ji20 ≤ (t160.size : Int) then ((impl_SumOf.f (t160.extract (ji20 : Int).toNat t160.size)).bind fun bt179 => (if bt177.2 = true then (if bt179.2 = true then (if (Go.bits .xor .i64 bt177.1 bt179.1) = t166 then (laws_FnLinear.j2 kj26 l1) else (some false)) else (some false)) else (some false))) else (none)) else (none))) = some r := by rw [if_neg (show ¬ (false = true) by decide)] at H; exact H
                          clear H
                          have H := H1
                          clear H1
                          replace H := Option.bind_eq_some_iff.mp H
                          obtain ⟨⟨t177, t178⟩, A400, H⟩ := H
                          replace H : (if 0 ≤ ji20 then (if ji20 ≤ (t160.size : Int) then ((impl_SumOf.f (t160.extract (ji20 : Int).toNat t160.size)).bind fun bt179 => (if t178 = true then (if bt179.2 = true then (if (Go.bits .xor .i64 t177 bt179.1) = t166 then (laws_FnLinear.j2 kj26 l1) else (some false)) else (some false)) else (some false))) else (none)) else (none)) = some r := H
                          have A40 := Aside0.mk A400
                          clear A400
                          by_cases c41 : 0 ≤ ji20
                          · rw [if_pos c41] at H
                            have c41b0 := eq_true c41
                            have c41b1 : decide (0 ≤ ji20) = true := decide_eq_true c41
                            clear c41
                            by_cases c42 : ji20 ≤ (t160.size : Int)
                            · rw [if_pos c42] at H
                              have c42b0 := eq_true c42
                              have c42b1 : decide (ji20 ≤ (t160.size : Int)) = true := decide_eq_true c42
                              clear c42
                              replace H := Option.bind_eq_some_iff.mp H
                              obtain ⟨⟨t179, t180⟩, A430, H⟩ := H
                              replace H : (if t178 = true then (if t180 = true then (if (Go.bits .xor .i64 t177 t179) = t166 then (laws_FnLinear.j2 kj26 l1) else (some false)) else (some false)) else (some false)) = some r := H
                              have A43 := Aside0.mk A430
                              clear A430
                              by_cases c44 : t178 = true
                              · subst c44
                                have H1 : (if t180 = true then (if (Go.bits .xor .i64 t177 t179) = t166 then (laws_FnLinear.j2 kj26 l1) else (some false)) else (some false)) = some r := by rw [if_pos rfl] at H; exact H
                                clear H
                                have H := H1
                                clear H1
                                by_cases c45 : t180 = true
                                · subst c45
                                  have H1 : (if (Go.bits .xor .i64 t177 t179) = t166 then (laws_FnLinear.j2 kj26 l1) else (some false)) = some r := by rw [if_pos rfl] at H; exact H
                                  clear H
                                  have H := H1
                                  clear H1
                                  by_cases c46 : (Go.bits .xor .i64 t177 t179) = t166
                                  · rw [if_pos c46] at H
                                    have c46b0 : ((Go.bits .xor .i64 t177 t179) == t166) = true := beq_iff_eq.mpr c46
                                    have c46b1 : ((Go.bits .xor .i64 t177 t179) != t166) = false := bne_eq_false_iff_eq.mpr c46
                                    clear c46
                                    have H' := Aside0.mk H
                                    clear H
                                    go_wp2_with (first | ((with_reducible refine gate_callee (f := 34) rfl ?_); refine goesL_ (some 147) rfl rfl Try.func34 (by kernel_rfl) rfl #[.int .i64 t173, .int .i64 (wrap64 ((t160.size : Int) - ji20))] rfl (by (try simp only [List.map_toArray, List.map_cons, List.map_nil]); first | done | (simp only [hji20]; rfl) | rfl | (simp only [List.length_drop, List.length_take]; rfl)) ?_; (with_reducible refine (impl_SumZeros.calls kj26 t173 (wrap64 ((t160.size : Int) - ji20)) t177 true _ A40.out).mono ?_); rintro e w47 ⟨rfl, hb⟩; refine ⟨_, rfl, ?_⟩; have n0_ := Aside0.mk (below_step (by repeat (first | (with_reducible first | exact HB.out | apply below_alloc | apply pw_below_drewN | apply below_drew1) | exact HB.out)) hb); clear HB; have HB := n0_; clear n0_; (try clear hb); (try clear hb2); (try clear hk); (try clear hi)) | ((with_reducible refine gate_callee (f := 31) rfl ?_); refine goesL_ (some 154) rfl rfl Try.func31 (by kernel_rfl) rfl #[.string (t160.extract (ji20 : Int).toNat t160.size)] rfl (by (try simp only [List.map_toArray, List.map_cons, List.map_nil]); first | done | (simp only [hji20]; rfl) | rfl | (simp only [List.length_drop, List.length_take]; rfl)) ?_; (with_reducible refine (impl_SumOf.calls (t160.extract (ji20 : Int).toNat t160.size) t179 true _ A43.out).mono ?_); rintro e w48 ⟨rfl, hb⟩; refine ⟨_, rfl, ?_⟩; have n0_ := Aside0.mk (below_step (by repeat (first | (with_reducible first | exact HB.out | apply below_alloc | apply pw_below_drewN | apply below_drew1) | exact HB.out)) hb); clear HB; have HB := n0_; clear n0_; (try clear hb); (try clear hb2); (try clear hk); (try clear hi)))
                                    go_meet
                                    case rel => exact ⟨_, H', ⟨by have := HJ6.out; have := HJ26.out; first | omega | exact Nat.le_refl _⟩, ⟨by repeat (first | (with_reducible first | exact HB.out | apply below_alloc | apply pw_below_drewN | apply below_drew1) | exact HB.out)⟩⟩
                                  · rw [if_neg c46] at H
                                    have c46b0 : ((Go.bits .xor .i64 t177 t179) == t166) = false := beq_eq_false_iff_ne.mpr c46
                                    have c46b1 : ((Go.bits .xor .i64 t177 t179) != t166) = true := bne_iff_ne.mpr c46
                                    obtain rfl := Option.some.inj H
                                    go_wp2_with (first | ((with_reducible refine gate_callee (f := 34) rfl ?_); refine goesL_ (some 147) rfl rfl Try.func34 (by kernel_rfl) rfl #[.int .i64 t173, .int .i64 (wrap64 ((t160.size : Int) - ji20))] rfl (by (try simp only [List.map_toArray, List.map_cons, List.map_nil]); first | done | (simp only [hji20]; rfl) | rfl | (simp only [List.length_drop, List.length_take]; rfl)) ?_; (with_reducible refine (impl_SumZeros.calls kj26 t173 (wrap64 ((t160.size : Int) - ji20)) t177 true _ A40.out).mono ?_); rintro e w49 ⟨rfl, hb⟩; refine ⟨_, rfl, ?_⟩; have n0_ := Aside0.mk (below_step (by repeat (first | (with_reducible first | exact HB.out | apply below_alloc | apply pw_below_drewN | apply below_drew1) | exact HB.out)) hb); clear HB; have HB := n0_; clear n0_; (try clear hb); (try clear hb2); (try clear hk); (try clear hi)) | ((with_reducible refine gate_callee (f := 31) rfl ?_); refine goesL_ (some 154) rfl rfl Try.func31 (by kernel_rfl) rfl #[.string (t160.extract (ji20 : Int).toNat t160.size)] rfl (by (try simp only [List.map_toArray, List.map_cons, List.map_nil]); first | done | (simp only [hji20]; rfl) | rfl | (simp only [List.length_drop, List.length_take]; rfl)) ?_; (with_reducible refine (impl_SumOf.calls (t160.extract (ji20 : Int).toNat t160.size) t179 true _ A43.out).mono ?_); rintro e w50 ⟨rfl, hb⟩; refine ⟨_, rfl, ?_⟩; have n0_ := Aside0.mk (below_step (by repeat (first | (with_reducible first | exact HB.out | apply below_alloc | apply pw_below_drewN | apply below_drew1) | exact HB.out)) hb); clear HB; have HB := n0_; clear n0_; (try clear hb); (try clear hb2); (try clear hk); (try clear hi)))
                                    go_ret
                                    exact ⟨by first | rfl | (simp [errW_none, errW_some] <;> rfl) | (simp only [← hji20]; first | rfl | (simp [errW_none, errW_some] <;> rfl)) | (simp [*, errW_none, errW_some] <;> rfl), by repeat (first | (with_reducible first | exact HB.out | apply below_alloc | apply pw_below_drewN | apply below_drew1) | exact HB.out)⟩
                                · replace c45 := Bool.eq_false_iff.mpr c45
                                  subst c45
                                  have H1 : (some false) = some r := by rw [if_neg (show ¬ (false = true) by decide)] at H; exact H
                                  clear H
                                  have H := H1
                                  clear H1
                                  obtain rfl := Option.some.inj H
                                  go_wp2_with (first | ((with_reducible refine gate_callee (f := 34) rfl ?_); refine goesL_ (some 147) rfl rfl Try.func34 (by kernel_rfl) rfl #[.int .i64 t173, .int .i64 (wrap64 ((t160.size : Int) - ji20))] rfl (by (try simp only [List.map_toArray, List.map_cons, List.map_nil]); first | done | (simp only [hji20]; rfl) | rfl | (simp only [List.length_drop, List.length_take]; rfl)) ?_; (with_reducible refine (impl_SumZeros.calls kj26 t173 (wrap64 ((t160.size : Int) - ji20)) t177 true _ A40.out).mono ?_); rintro e w51 ⟨rfl, hb⟩; refine ⟨_, rfl, ?_⟩; have n0_ := Aside0.mk (below_step (by repeat (first | (with_reducible first | exact HB.out | apply below_alloc | apply pw_below_drewN | apply below_drew1) | exact HB.out)) hb); clear HB; have HB := n0_; clear n0_; (try clear hb); (try clear hb2); (try clear hk); (try clear hi)) | ((with_reducible refine gate_callee (f := 31) rfl ?_); refine goesL_ (some 154) rfl rfl Try.func31 (by kernel_rfl) rfl #[.string (t160.extract (ji20 : Int).toNat t160.size)] rfl (by (try simp only [List.map_toArray, List.map_cons, List.map_nil]); first | done | (simp only [hji20]; rfl) | rfl | (simp only [List.length_drop, List.length_take]; rfl)) ?_; (with_reducible refine (impl_SumOf.calls (t160.extract (ji20 : Int).toNat t160.size) t179 false _ A43.out).mono ?_); rintro e w52 ⟨rfl, hb⟩; refine ⟨_, rfl, ?_⟩; have n0_ := Aside0.mk (below_step (by repeat (first | (with_reducible first | exact HB.out | apply below_alloc | apply pw_below_drewN | apply below_drew1) | exact HB.out)) hb); clear HB; have HB := n0_; clear n0_; (try clear hb); (try clear hb2); (try clear hk); (try clear hi)))
                                  go_ret
                                  exact ⟨by first | rfl | (simp [errW_none, errW_some] <;> rfl) | (simp only [← hji20]; first | rfl | (simp [errW_none, errW_some] <;> rfl)) | (simp [*, errW_none, errW_some] <;> rfl), by repeat (first | (with_reducible first | exact HB.out | apply below_alloc | apply pw_below_drewN | apply below_drew1) | exact HB.out)⟩
                              · replace c44 := Bool.eq_false_iff.mpr c44
                                subst c44
                                have H1 : (some false) = some r := by rw [if_neg (show ¬ (false = true) by decide)] at H; exact H
                                clear H
                                have H := H1
                                clear H1
                                obtain rfl := Option.some.inj H
                                go_wp2_with (first | ((with_reducible refine gate_callee (f := 34) rfl ?_); refine goesL_ (some 147) rfl rfl Try.func34 (by kernel_rfl) rfl #[.int .i64 t173, .int .i64 (wrap64 ((t160.size : Int) - ji20))] rfl (by (try simp only [List.map_toArray, List.map_cons, List.map_nil]); first | done | (simp only [hji20]; rfl) | rfl | (simp only [List.length_drop, List.length_take]; rfl)) ?_; (with_reducible refine (impl_SumZeros.calls kj26 t173 (wrap64 ((t160.size : Int) - ji20)) t177 false _ A40.out).mono ?_); rintro e w53 ⟨rfl, hb⟩; refine ⟨_, rfl, ?_⟩; have n0_ := Aside0.mk (below_step (by repeat (first | (with_reducible first | exact HB.out | apply below_alloc | apply pw_below_drewN | apply below_drew1) | exact HB.out)) hb); clear HB; have HB := n0_; clear n0_; (try clear hb); (try clear hb2); (try clear hk); (try clear hi)) | ((with_reducible refine gate_callee (f := 31) rfl ?_); refine goesL_ (some 154) rfl rfl Try.func31 (by kernel_rfl) rfl #[.string (t160.extract (ji20 : Int).toNat t160.size)] rfl (by (try simp only [List.map_toArray, List.map_cons, List.map_nil]); first | done | (simp only [hji20]; rfl) | rfl | (simp only [List.length_drop, List.length_take]; rfl)) ?_; (with_reducible refine (impl_SumOf.calls (t160.extract (ji20 : Int).toNat t160.size) t179 t180 _ A43.out).mono ?_); rintro e w54 ⟨rfl, hb⟩; refine ⟨_, rfl, ?_⟩; have n0_ := Aside0.mk (below_step (by repeat (first | (with_reducible first | exact HB.out | apply below_alloc | apply pw_below_drewN | apply below_drew1) | exact HB.out)) hb); clear HB; have HB := n0_; clear n0_; (try clear hb); (try clear hb2); (try clear hk); (try clear hi)))
                                go_ret
                                exact ⟨by first | rfl | (simp [errW_none, errW_some] <;> rfl) | (simp only [← hji20]; first | rfl | (simp [errW_none, errW_some] <;> rfl)) | (simp [*, errW_none, errW_some] <;> rfl), by repeat (first | (with_reducible first | exact HB.out | apply below_alloc | apply pw_below_drewN | apply below_drew1) | exact HB.out)⟩
                            · rw [if_neg c42] at H
                              exact absurd H (by simp)
                          · rw [if_neg c41] at H
                            exact absurd H (by simp)
                  · rw [if_neg c22] at H
                    exact absurd H (by simp)
                · rw [if_neg c21] at H
                  exact absurd H (by simp)
            · replace c14 := Bool.eq_false_iff.mpr c14
              subst c14
              have H1 : (laws_FnLinear.j2 kj6 l1) = some r := by rw [if_neg (show ¬ (false = true) by decide)] at H; exact H
              clear H
              have H := H1
              clear H1
              have H' := Aside0.mk H
              clear H
              go_wp2
              go_meet
              case rel => exact ⟨_, H', ⟨by have := HJ6.out; first | omega | exact Nat.le_refl _⟩, ⟨by repeat (first | (with_reducible first | exact HB.out | apply below_alloc | apply pw_below_drewN | apply below_drew1) | exact HB.out)⟩⟩
          case rest => as_aux_lemma =>
            clear HC13
            try clear c1
            try clear c2
            try clear p2
            try clear c3
            try clear c3b0
            try clear c4
            try clear p6
            try clear c8
            try clear c11
            try clear c11b0
            try clear c11b1
            try clear c11b2
            try clear c12
            try clear c14
            try clear c19
            try clear c19b0
            try clear c19b1
            try clear c21
            try clear c21b0
            try clear c21b1
            try clear c22
            try clear c22b0
            try clear c22b1
            try clear c24
            try clear c24b0
            try clear c25
            try clear c25b0
            try clear c28
            try clear c29
            try clear c30
            try clear c31
            try clear c32
            try clear c33
            try clear c34
            try clear c35
            try clear c36
            try clear c36b0
            try clear c36b1
            try clear c37
            try clear c38
            try clear c39
            try clear c41
            try clear c41b0
            try clear c41b1
            try clear c42
            try clear c42b0
            try clear c42b1
            try clear c44
            try clear c45
            try clear c46
            try clear c46b0
            try clear c46b1
            try clear p2
            try clear p6
            obtain ⟨kq, HA, HJ12, HB⟩ := hcut
            cases kq with
            | zero => exact absurd HA.out (by simp [laws_FnLinear.j2])
            | succ kj12 =>
              have H := HA.out
              clear HA
              simp only [laws_FnLinear.j2] at H
              replace H := Option.bind_eq_some_iff.mp H
              obtain ⟨⟨t181, t182⟩, A550, H⟩ := H
              replace H : ((impl_SumOn.f t181 t182).bind fun bt183 => ((spec_SumOn.f kj12 t181 t182).bind fun bt185 => ((spec_DrawSumOf.f kj12 l1).bind fun t187 => ((impl_SumOf.f t187).bind fun bt188 => ((spec_SumOf.f kj12 t187).bind fun bt190 => ((spec_DrawSumZeros.f l1).bind fun bt192 => ((impl_SumZeros.f kj12 bt192.1 bt192.2).bind fun bt194 => ((spec_SumZeros.f kj12 bt192.1 bt192.2).bind fun bt196 => (if (bt183.2 == bt185.2) = true then (if bt183.1 = bt185.1 then (if (bt188.2 == bt190.2) = true then (if bt188.1 = bt190.1 then (if (bt194.2 == bt196.2) = true then (some (bt194.1 == bt196.1)) else (some false)) else (some false)) else (some false)) else (some false)) else (some false)))))))))) = some r := H
              have A55 := Aside0.mk A550
              clear A550
              replace H := Option.bind_eq_some_iff.mp H
              obtain ⟨⟨t183, t184⟩, A560, H⟩ := H
              replace H : ((spec_SumOn.f kj12 t181 t182).bind fun bt185 => ((spec_DrawSumOf.f kj12 l1).bind fun t187 => ((impl_SumOf.f t187).bind fun bt188 => ((spec_SumOf.f kj12 t187).bind fun bt190 => ((spec_DrawSumZeros.f l1).bind fun bt192 => ((impl_SumZeros.f kj12 bt192.1 bt192.2).bind fun bt194 => ((spec_SumZeros.f kj12 bt192.1 bt192.2).bind fun bt196 => (if (t184 == bt185.2) = true then (if t183 = bt185.1 then (if (bt188.2 == bt190.2) = true then (if bt188.1 = bt190.1 then (if (bt194.2 == bt196.2) = true then (some (bt194.1 == bt196.1)) else (some false)) else (some false)) else (some false)) else (some false)) else (some false))))))))) = some r := H
              have A56 := Aside0.mk A560
              clear A560
              replace H := Option.bind_eq_some_iff.mp H
              obtain ⟨⟨t185, t186⟩, A570, H⟩ := H
              replace H : ((spec_DrawSumOf.f kj12 l1).bind fun t187 => ((impl_SumOf.f t187).bind fun bt188 => ((spec_SumOf.f kj12 t187).bind fun bt190 => ((spec_DrawSumZeros.f l1).bind fun bt192 => ((impl_SumZeros.f kj12 bt192.1 bt192.2).bind fun bt194 => ((spec_SumZeros.f kj12 bt192.1 bt192.2).bind fun bt196 => (if (t184 == t186) = true then (if t183 = t185 then (if (bt188.2 == bt190.2) = true then (if bt188.1 = bt190.1 then (if (bt194.2 == bt196.2) = true then (some (bt194.1 == bt196.1)) else (some false)) else (some false)) else (some false)) else (some false)) else (some false)))))))) = some r := H
              have A57 := Aside0.mk A570
              clear A570
              replace H := Option.bind_eq_some_iff.mp H
              obtain ⟨t187, A580, H⟩ := H
              replace H : ((impl_SumOf.f t187).bind fun bt188 => ((spec_SumOf.f kj12 t187).bind fun bt190 => ((spec_DrawSumZeros.f l1).bind fun bt192 => ((impl_SumZeros.f kj12 bt192.1 bt192.2).bind fun bt194 => ((spec_SumZeros.f kj12 bt192.1 bt192.2).bind fun bt196 => (if (t184 == t186) = true then (if t183 = t185 then (if (bt188.2 == bt190.2) = true then (if bt188.1 = bt190.1 then (if (bt194.2 == bt196.2) = true then (some (bt194.1 == bt196.1)) else (some false)) else (some false)) else (some false)) else (some false)) else (some false))))))) = some r := H
              have A58 := Aside0.mk A580
              clear A580
              replace H := Option.bind_eq_some_iff.mp H
              obtain ⟨⟨t188, t189⟩, A590, H⟩ := H
              replace H : ((spec_SumOf.f kj12 t187).bind fun bt190 => ((spec_DrawSumZeros.f l1).bind fun bt192 => ((impl_SumZeros.f kj12 bt192.1 bt192.2).bind fun bt194 => ((spec_SumZeros.f kj12 bt192.1 bt192.2).bind fun bt196 => (if (t184 == t186) = true then (if t183 = t185 then (if (t189 == bt190.2) = true then (if t188 = bt190.1 then (if (bt194.2 == bt196.2) = true then (some (bt194.1 == bt196.1)) else (some false)) else (some false)) else (some false)) else (some false)) else (some false)))))) = some r := H
              have A59 := Aside0.mk A590
              clear A590
              replace H := Option.bind_eq_some_iff.mp H
              obtain ⟨⟨t190, t191⟩, A600, H⟩ := H
              replace H : ((spec_DrawSumZeros.f l1).bind fun bt192 => ((impl_SumZeros.f kj12 bt192.1 bt192.2).bind fun bt194 => ((spec_SumZeros.f kj12 bt192.1 bt192.2).bind fun bt196 => (if (t184 == t186) = true then (if t183 = t185 then (if (t189 == t191) = true then (if t188 = t190 then (if (bt194.2 == bt196.2) = true then (some (bt194.1 == bt196.1)) else (some false)) else (some false)) else (some false)) else (some false)) else (some false))))) = some r := H
              have A60 := Aside0.mk A600
              clear A600
              replace H := Option.bind_eq_some_iff.mp H
              obtain ⟨⟨t192, t193⟩, A610, H⟩ := H
              replace H : ((impl_SumZeros.f kj12 t192 t193).bind fun bt194 => ((spec_SumZeros.f kj12 t192 t193).bind fun bt196 => (if (t184 == t186) = true then (if t183 = t185 then (if (t189 == t191) = true then (if t188 = t190 then (if (bt194.2 == bt196.2) = true then (some (bt194.1 == bt196.1)) else (some false)) else (some false)) else (some false)) else (some false)) else (some false)))) = some r := H
              have A61 := Aside0.mk A610
              clear A610
              replace H := Option.bind_eq_some_iff.mp H
              obtain ⟨⟨t194, t195⟩, A620, H⟩ := H
              replace H : ((spec_SumZeros.f kj12 t192 t193).bind fun bt196 => (if (t184 == t186) = true then (if t183 = t185 then (if (t189 == t191) = true then (if t188 = t190 then (if (t195 == bt196.2) = true then (some (t194 == bt196.1)) else (some false)) else (some false)) else (some false)) else (some false)) else (some false))) = some r := H
              have A62 := Aside0.mk A620
              clear A620
              replace H := Option.bind_eq_some_iff.mp H
              obtain ⟨⟨t196, t197⟩, A630, H⟩ := H
              replace H : (if (t184 == t186) = true then (if t183 = t185 then (if (t189 == t191) = true then (if t188 = t190 then (if (t195 == t197) = true then (some (t194 == t196)) else (some false)) else (some false)) else (some false)) else (some false)) else (some false)) = some r := H
              have A63 := Aside0.mk A630
              clear A630
              by_cases c64 : (t184 == t186) = true
              · rw [if_pos c64] at H
                have c64b0 : (t184 == t186) = true := c64
                (try (have c64b1 : decide (t184 = t186) = true := by simpa using c64))
                (try (have c64b2 : (t184 == t186) = true := by simpa using c64))
                clear c64
                by_cases c65 : t183 = t185
                · rw [if_pos c65] at H
                  have c65b0 : (t183 == t185) = true := beq_iff_eq.mpr c65
                  have c65b1 : (t183 != t185) = false := bne_eq_false_iff_eq.mpr c65
                  clear c65
                  by_cases c66 : (t189 == t191) = true
                  · rw [if_pos c66] at H
                    have c66b0 : (t189 == t191) = true := c66
                    (try (have c66b1 : decide (t189 = t191) = true := by simpa using c66))
                    (try (have c66b2 : (t189 == t191) = true := by simpa using c66))
                    clear c66
                    by_cases c67 : t188 = t190
                    · rw [if_pos c67] at H
                      have c67b0 : (t188 == t190) = true := beq_iff_eq.mpr c67
                      have c67b1 : (t188 != t190) = false := bne_eq_false_iff_eq.mpr c67
                      clear c67
                      by_cases c68 : (t195 == t197) = true
                      · rw [if_pos c68] at H
                        have c68b0 : (t195 == t197) = true := c68
                        (try (have c68b1 : decide (t195 = t197) = true := by simpa using c68))
                        (try (have c68b2 : (t195 == t197) = true := by simpa using c68))
                        clear c68
                        obtain rfl := Option.some.inj H
                        go_wp2_with (first | ((with_reducible refine gate_callee (f := 35) rfl ?_); refine goesL_ (some 172) rfl rfl Try.func35 (by kernel_rfl) rfl #[.slice A1 l1.length c1] rfl (by (try simp only [List.map_toArray, List.map_cons, List.map_nil]); first | done | rfl | (simp only [List.length_drop, List.length_take]; rfl)) ?_; (with_reducible refine (spec_DrawSumOn.calls kj12 _ _ l1 t181 t182 _ ?side1 ?side2 A55.out).mono ?_); (case side1 => repeat (first | exact (Kd.C_below HR1.out HB.out) | (with_reducible refine Kd.C_alloc ?_ _) | (with_reducible refine Kd.C_drewN ?_ _) | (with_reducible refine Kd.C_drew ?_))); (case side2 => exact HC1.out); rintro e w69 ⟨rfl, hb⟩; refine ⟨_, rfl, ?_⟩; have n0_ := Aside0.mk (below_step (by repeat (first | (with_reducible first | exact HB.out | apply below_alloc | apply pw_below_drewN | apply below_drew1) | exact HB.out)) hb); clear HB; have HB := n0_; clear n0_; (try clear hb); (try clear hb2); (try clear hk); (try clear hi)) | ((with_reducible refine gate_callee (f := 33) rfl ?_); refine goesL_ (some 178) rfl rfl Try.func33 (by kernel_rfl) rfl #[.int .i64 t181, .string t182] rfl (by (try simp only [List.map_toArray, List.map_cons, List.map_nil]); first | done | rfl | (simp only [List.length_drop, List.length_take]; rfl)) ?_; (with_reducible refine (impl_SumOn.calls t181 t182 t183 t184 _ A56.out).mono ?_); rintro e w70 ⟨rfl, hb⟩; refine ⟨_, rfl, ?_⟩; have n0_ := Aside0.mk (below_step (by repeat (first | (with_reducible first | exact HB.out | apply below_alloc | apply pw_below_drewN | apply below_drew1) | exact HB.out)) hb); clear HB; have HB := n0_; clear n0_; (try clear hb); (try clear hb2); (try clear hk); (try clear hi)) | ((with_reducible refine gate_callee (f := 36) rfl ?_); refine goesL_ (some 184) rfl rfl Try.func36 (by kernel_rfl) rfl #[.int .i64 t181, .string t182] rfl (by (try simp only [List.map_toArray, List.map_cons, List.map_nil]); first | done | rfl | (simp only [List.length_drop, List.length_take]; rfl)) ?_; (with_reducible refine (spec_SumOn.calls kj12 t181 t182 t185 t186 _ A57.out).mono ?_); rintro e w' ⟨rfl, ⟨nd, rfl⟩⟩; refine ⟨_, rfl, ?_⟩) | ((with_reducible refine gate_callee (f := 37) rfl ?_); refine goesL_ (some 188) rfl rfl Try.func37 (by kernel_rfl) rfl #[.slice A1 l1.length c1] rfl (by (try simp only [List.map_toArray, List.map_cons, List.map_nil]); first | done | rfl | (simp only [List.length_drop, List.length_take]; rfl)) ?_; (with_reducible refine (spec_DrawSumOf.calls kj12 _ _ l1 t187 _ ?side1 ?side2 A58.out).mono ?_); (case side1 => repeat (first | exact (Kd.C_below HR1.out (by repeat (first | (with_reducible first | exact HB.out | apply below_alloc | apply pw_below_drewN | apply below_drew1) | exact HB.out))) | (with_reducible refine Kd.C_alloc ?_ _) | (with_reducible refine Kd.C_drewN ?_ _) | (with_reducible refine Kd.C_drew ?_))); (case side2 => exact HC1.out); rintro e w71 ⟨rfl, hb⟩; refine ⟨_, rfl, ?_⟩; have n0_ := Aside0.mk (below_step (by repeat (first | (with_reducible first | exact HB.out | apply below_alloc | apply pw_below_drewN | apply below_drew1) | exact HB.out)) hb); clear HB; have HB := n0_; clear n0_; (try clear hb); (try clear hb2); (try clear hk); (try clear hi)) | ((with_reducible refine gate_callee (f := 31) rfl ?_); refine goesL_ (some 191) rfl rfl Try.func31 (by kernel_rfl) rfl #[.string t187] rfl (by (try simp only [List.map_toArray, List.map_cons, List.map_nil]); first | done | rfl | (simp only [List.length_drop, List.length_take]; rfl)) ?_; (with_reducible refine (impl_SumOf.calls t187 t188 t189 _ A59.out).mono ?_); rintro e w72 ⟨rfl, hb⟩; refine ⟨_, rfl, ?_⟩; have n0_ := Aside0.mk (below_step (by repeat (first | (with_reducible first | exact HB.out | apply below_alloc | apply pw_below_drewN | apply below_drew1) | exact HB.out)) hb); clear HB; have HB := n0_; clear n0_; (try clear hb); (try clear hb2); (try clear hk); (try clear hi)) | ((with_reducible refine gate_callee (f := 38) rfl ?_); refine goesL_ (some 196) rfl rfl Try.func38 (by kernel_rfl) rfl #[.string t187] rfl (by (try simp only [List.map_toArray, List.map_cons, List.map_nil]); first | done | rfl | (simp only [List.length_drop, List.length_take]; rfl)) ?_; (with_reducible refine (spec_SumOf.calls kj12 t187 t190 t191 _ A60.out).mono ?_); rintro e w' ⟨rfl, ⟨nd, rfl⟩⟩; refine ⟨_, rfl, ?_⟩) | ((with_reducible refine gate_callee (f := 39) rfl ?_); refine goesL_ (some 201) rfl rfl Try.func39 (by kernel_rfl) rfl #[.slice A1 l1.length c1] rfl (by (try simp only [List.map_toArray, List.map_cons, List.map_nil]); first | done | rfl | (simp only [List.length_drop, List.length_take]; rfl)) ?_; (with_reducible refine (spec_DrawSumZeros.calls _ _ l1 t192 t193 _ ?side1 ?side2 A61.out).mono ?_); (case side1 => repeat (first | exact (Kd.C_below HR1.out (by repeat (first | (with_reducible first | exact HB.out | apply below_alloc | apply pw_below_drewN | apply below_drew1) | exact HB.out))) | (with_reducible refine Kd.C_alloc ?_ _) | (with_reducible refine Kd.C_drewN ?_ _) | (with_reducible refine Kd.C_drew ?_))); (case side2 => exact HC1.out); rintro e w73 ⟨rfl, hb⟩; refine ⟨_, rfl, ?_⟩; have n0_ := Aside0.mk (below_step (by repeat (first | (with_reducible first | exact HB.out | apply below_alloc | apply pw_below_drewN | apply below_drew1) | exact HB.out)) hb); clear HB; have HB := n0_; clear n0_; (try clear hb); (try clear hb2); (try clear hk); (try clear hi)) | ((with_reducible refine gate_callee (f := 34) rfl ?_); refine goesL_ (some 207) rfl rfl Try.func34 (by kernel_rfl) rfl #[.int .i64 t192, .int .i64 t193] rfl (by (try simp only [List.map_toArray, List.map_cons, List.map_nil]); first | done | rfl | (simp only [List.length_drop, List.length_take]; rfl)) ?_; (with_reducible refine (impl_SumZeros.calls kj12 t192 t193 t194 t195 _ A62.out).mono ?_); rintro e w74 ⟨rfl, hb⟩; refine ⟨_, rfl, ?_⟩; have n0_ := Aside0.mk (below_step (by repeat (first | (with_reducible first | exact HB.out | apply below_alloc | apply pw_below_drewN | apply below_drew1) | exact HB.out)) hb); clear HB; have HB := n0_; clear n0_; (try clear hb); (try clear hb2); (try clear hk); (try clear hi)) | ((with_reducible refine gate_callee (f := 40) rfl ?_); refine goesL_ (some 213) rfl rfl Try.func40 (by kernel_rfl) rfl #[.int .i64 t192, .int .i64 t193] rfl (by (try simp only [List.map_toArray, List.map_cons, List.map_nil]); first | done | rfl | (simp only [List.length_drop, List.length_take]; rfl)) ?_; (with_reducible refine (spec_SumZeros.calls kj12 t192 t193 t196 t197 _ A63.out).mono ?_); rintro e w75 ⟨rfl, hb⟩; refine ⟨_, rfl, ?_⟩; have n0_ := Aside0.mk (below_step (by repeat (first | (with_reducible first | exact HB.out | apply below_alloc | apply pw_below_drewN | apply below_drew1) | exact HB.out)) hb); clear HB; have HB := n0_; clear n0_; (try clear hb); (try clear hb2); (try clear hk); (try clear hi)))
                        go_ret
                        exact ⟨by first | rfl | (simp [errW_none, errW_some] <;> rfl) | (simp [*, errW_none, errW_some] <;> rfl), by repeat (first | (with_reducible first | exact HB.out | apply below_alloc | apply pw_below_drewN | apply below_drew1) | exact HB.out)⟩
                      · rw [if_neg c68] at H
                        have c68b0 : (t195 == t197) = false := by simpa using c68
                        (try (have c68b1 : decide (t195 = t197) = false := by simpa using c68))
                        (try (have c68b2 : (t195 == t197) = false := by simpa using c68))
                        (try (have c68b3 : ¬ (t195 = t197) := by simpa using c68))
                        clear c68
                        obtain rfl := Option.some.inj H
                        go_wp2_with (first | ((with_reducible refine gate_callee (f := 35) rfl ?_); refine goesL_ (some 172) rfl rfl Try.func35 (by kernel_rfl) rfl #[.slice A1 l1.length c1] rfl (by (try simp only [List.map_toArray, List.map_cons, List.map_nil]); first | done | rfl | (simp only [List.length_drop, List.length_take]; rfl)) ?_; (with_reducible refine (spec_DrawSumOn.calls kj12 _ _ l1 t181 t182 _ ?side1 ?side2 A55.out).mono ?_); (case side1 => repeat (first | exact (Kd.C_below HR1.out HB.out) | (with_reducible refine Kd.C_alloc ?_ _) | (with_reducible refine Kd.C_drewN ?_ _) | (with_reducible refine Kd.C_drew ?_))); (case side2 => exact HC1.out); rintro e w76 ⟨rfl, hb⟩; refine ⟨_, rfl, ?_⟩; have n0_ := Aside0.mk (below_step (by repeat (first | (with_reducible first | exact HB.out | apply below_alloc | apply pw_below_drewN | apply below_drew1) | exact HB.out)) hb); clear HB; have HB := n0_; clear n0_; (try clear hb); (try clear hb2); (try clear hk); (try clear hi)) | ((with_reducible refine gate_callee (f := 33) rfl ?_); refine goesL_ (some 178) rfl rfl Try.func33 (by kernel_rfl) rfl #[.int .i64 t181, .string t182] rfl (by (try simp only [List.map_toArray, List.map_cons, List.map_nil]); first | done | rfl | (simp only [List.length_drop, List.length_take]; rfl)) ?_; (with_reducible refine (impl_SumOn.calls t181 t182 t183 t184 _ A56.out).mono ?_); rintro e w77 ⟨rfl, hb⟩; refine ⟨_, rfl, ?_⟩; have n0_ := Aside0.mk (below_step (by repeat (first | (with_reducible first | exact HB.out | apply below_alloc | apply pw_below_drewN | apply below_drew1) | exact HB.out)) hb); clear HB; have HB := n0_; clear n0_; (try clear hb); (try clear hb2); (try clear hk); (try clear hi)) | ((with_reducible refine gate_callee (f := 36) rfl ?_); refine goesL_ (some 184) rfl rfl Try.func36 (by kernel_rfl) rfl #[.int .i64 t181, .string t182] rfl (by (try simp only [List.map_toArray, List.map_cons, List.map_nil]); first | done | rfl | (simp only [List.length_drop, List.length_take]; rfl)) ?_; (with_reducible refine (spec_SumOn.calls kj12 t181 t182 t185 t186 _ A57.out).mono ?_); rintro e w' ⟨rfl, ⟨nd, rfl⟩⟩; refine ⟨_, rfl, ?_⟩) | ((with_reducible refine gate_callee (f := 37) rfl ?_); refine goesL_ (some 188) rfl rfl Try.func37 (by kernel_rfl) rfl #[.slice A1 l1.length c1] rfl (by (try simp only [List.map_toArray, List.map_cons, List.map_nil]); first | done | rfl | (simp only [List.length_drop, List.length_take]; rfl)) ?_; (with_reducible refine (spec_DrawSumOf.calls kj12 _ _ l1 t187 _ ?side1 ?side2 A58.out).mono ?_); (case side1 => repeat (first | exact (Kd.C_below HR1.out (by repeat (first | (with_reducible first | exact HB.out | apply below_alloc | apply pw_below_drewN | apply below_drew1) | exact HB.out))) | (with_reducible refine Kd.C_alloc ?_ _) | (with_reducible refine Kd.C_drewN ?_ _) | (with_reducible refine Kd.C_drew ?_))); (case side2 => exact HC1.out); rintro e w78 ⟨rfl, hb⟩; refine ⟨_, rfl, ?_⟩; have n0_ := Aside0.mk (below_step (by repeat (first | (with_reducible first | exact HB.out | apply below_alloc | apply pw_below_drewN | apply below_drew1) | exact HB.out)) hb); clear HB; have HB := n0_; clear n0_; (try clear hb); (try clear hb2); (try clear hk); (try clear hi)) | ((with_reducible refine gate_callee (f := 31) rfl ?_); refine goesL_ (some 191) rfl rfl Try.func31 (by kernel_rfl) rfl #[.string t187] rfl (by (try simp only [List.map_toArray, List.map_cons, List.map_nil]); first | done | rfl | (simp only [List.length_drop, List.length_take]; rfl)) ?_; (with_reducible refine (impl_SumOf.calls t187 t188 t189 _ A59.out).mono ?_); rintro e w79 ⟨rfl, hb⟩; refine ⟨_, rfl, ?_⟩; have n0_ := Aside0.mk (below_step (by repeat (first | (with_reducible first | exact HB.out | apply below_alloc | apply pw_below_drewN | apply below_drew1) | exact HB.out)) hb); clear HB; have HB := n0_; clear n0_; (try clear hb); (try clear hb2); (try clear hk); (try clear hi)) | ((with_reducible refine gate_callee (f := 38) rfl ?_); refine goesL_ (some 196) rfl rfl Try.func38 (by kernel_rfl) rfl #[.string t187] rfl (by (try simp only [List.map_toArray, List.map_cons, List.map_nil]); first | done | rfl | (simp only [List.length_drop, List.length_take]; rfl)) ?_; (with_reducible refine (spec_SumOf.calls kj12 t187 t190 t191 _ A60.out).mono ?_); rintro e w' ⟨rfl, ⟨nd, rfl⟩⟩; refine ⟨_, rfl, ?_⟩) | ((with_reducible refine gate_callee (f := 39) rfl ?_); refine goesL_ (some 201) rfl rfl Try.func39 (by kernel_rfl) rfl #[.slice A1 l1.length c1] rfl (by (try simp only [List.map_toArray, List.map_cons, List.map_nil]); first | done | rfl | (simp only [List.length_drop, List.length_take]; rfl)) ?_; (with_reducible refine (spec_DrawSumZeros.calls _ _ l1 t192 t193 _ ?side1 ?side2 A61.out).mono ?_); (case side1 => repeat (first | exact (Kd.C_below HR1.out (by repeat (first | (with_reducible first | exact HB.out | apply below_alloc | apply pw_below_drewN | apply below_drew1) | exact HB.out))) | (with_reducible refine Kd.C_alloc ?_ _) | (with_reducible refine Kd.C_drewN ?_ _) | (with_reducible refine Kd.C_drew ?_))); (case side2 => exact HC1.out); rintro e w80 ⟨rfl, hb⟩; refine ⟨_, rfl, ?_⟩; have n0_ := Aside0.mk (below_step (by repeat (first | (with_reducible first | exact HB.out | apply below_alloc | apply pw_below_drewN | apply below_drew1) | exact HB.out)) hb); clear HB; have HB := n0_; clear n0_; (try clear hb); (try clear hb2); (try clear hk); (try clear hi)) | ((with_reducible refine gate_callee (f := 34) rfl ?_); refine goesL_ (some 207) rfl rfl Try.func34 (by kernel_rfl) rfl #[.int .i64 t192, .int .i64 t193] rfl (by (try simp only [List.map_toArray, List.map_cons, List.map_nil]); first | done | rfl | (simp only [List.length_drop, List.length_take]; rfl)) ?_; (with_reducible refine (impl_SumZeros.calls kj12 t192 t193 t194 t195 _ A62.out).mono ?_); rintro e w81 ⟨rfl, hb⟩; refine ⟨_, rfl, ?_⟩; have n0_ := Aside0.mk (below_step (by repeat (first | (with_reducible first | exact HB.out | apply below_alloc | apply pw_below_drewN | apply below_drew1) | exact HB.out)) hb); clear HB; have HB := n0_; clear n0_; (try clear hb); (try clear hb2); (try clear hk); (try clear hi)) | ((with_reducible refine gate_callee (f := 40) rfl ?_); refine goesL_ (some 213) rfl rfl Try.func40 (by kernel_rfl) rfl #[.int .i64 t192, .int .i64 t193] rfl (by (try simp only [List.map_toArray, List.map_cons, List.map_nil]); first | done | rfl | (simp only [List.length_drop, List.length_take]; rfl)) ?_; (with_reducible refine (spec_SumZeros.calls kj12 t192 t193 t196 t197 _ A63.out).mono ?_); rintro e w82 ⟨rfl, hb⟩; refine ⟨_, rfl, ?_⟩; have n0_ := Aside0.mk (below_step (by repeat (first | (with_reducible first | exact HB.out | apply below_alloc | apply pw_below_drewN | apply below_drew1) | exact HB.out)) hb); clear HB; have HB := n0_; clear n0_; (try clear hb); (try clear hb2); (try clear hk); (try clear hi)))
                        go_ret
                        exact ⟨by first | rfl | (simp [errW_none, errW_some] <;> rfl) | (simp [*, errW_none, errW_some] <;> rfl), by repeat (first | (with_reducible first | exact HB.out | apply below_alloc | apply pw_below_drewN | apply below_drew1) | exact HB.out)⟩
                    · rw [if_neg c67] at H
                      have c67b0 : (t188 == t190) = false := beq_eq_false_iff_ne.mpr c67
                      have c67b1 : (t188 != t190) = true := bne_iff_ne.mpr c67
                      obtain rfl := Option.some.inj H
                      go_wp2_with (first | ((with_reducible refine gate_callee (f := 35) rfl ?_); refine goesL_ (some 172) rfl rfl Try.func35 (by kernel_rfl) rfl #[.slice A1 l1.length c1] rfl (by (try simp only [List.map_toArray, List.map_cons, List.map_nil]); first | done | rfl | (simp only [List.length_drop, List.length_take]; rfl)) ?_; (with_reducible refine (spec_DrawSumOn.calls kj12 _ _ l1 t181 t182 _ ?side1 ?side2 A55.out).mono ?_); (case side1 => repeat (first | exact (Kd.C_below HR1.out HB.out) | (with_reducible refine Kd.C_alloc ?_ _) | (with_reducible refine Kd.C_drewN ?_ _) | (with_reducible refine Kd.C_drew ?_))); (case side2 => exact HC1.out); rintro e w83 ⟨rfl, hb⟩; refine ⟨_, rfl, ?_⟩; have n0_ := Aside0.mk (below_step (by repeat (first | (with_reducible first | exact HB.out | apply below_alloc | apply pw_below_drewN | apply below_drew1) | exact HB.out)) hb); clear HB; have HB := n0_; clear n0_; (try clear hb); (try clear hb2); (try clear hk); (try clear hi)) | ((with_reducible refine gate_callee (f := 33) rfl ?_); refine goesL_ (some 178) rfl rfl Try.func33 (by kernel_rfl) rfl #[.int .i64 t181, .string t182] rfl (by (try simp only [List.map_toArray, List.map_cons, List.map_nil]); first | done | rfl | (simp only [List.length_drop, List.length_take]; rfl)) ?_; (with_reducible refine (impl_SumOn.calls t181 t182 t183 t184 _ A56.out).mono ?_); rintro e w84 ⟨rfl, hb⟩; refine ⟨_, rfl, ?_⟩; have n0_ := Aside0.mk (below_step (by repeat (first | (with_reducible first | exact HB.out | apply below_alloc | apply pw_below_drewN | apply below_drew1) | exact HB.out)) hb); clear HB; have HB := n0_; clear n0_; (try clear hb); (try clear hb2); (try clear hk); (try clear hi)) | ((with_reducible refine gate_callee (f := 36) rfl ?_); refine goesL_ (some 184) rfl rfl Try.func36 (by kernel_rfl) rfl #[.int .i64 t181, .string t182] rfl (by (try simp only [List.map_toArray, List.map_cons, List.map_nil]); first | done | rfl | (simp only [List.length_drop, List.length_take]; rfl)) ?_; (with_reducible refine (spec_SumOn.calls kj12 t181 t182 t185 t186 _ A57.out).mono ?_); rintro e w' ⟨rfl, ⟨nd, rfl⟩⟩; refine ⟨_, rfl, ?_⟩) | ((with_reducible refine gate_callee (f := 37) rfl ?_); refine goesL_ (some 188) rfl rfl Try.func37 (by kernel_rfl) rfl #[.slice A1 l1.length c1] rfl (by (try simp only [List.map_toArray, List.map_cons, List.map_nil]); first | done | rfl | (simp only [List.length_drop, List.length_take]; rfl)) ?_; (with_reducible refine (spec_DrawSumOf.calls kj12 _ _ l1 t187 _ ?side1 ?side2 A58.out).mono ?_); (case side1 => repeat (first | exact (Kd.C_below HR1.out (by repeat (first | (with_reducible first | exact HB.out | apply below_alloc | apply pw_below_drewN | apply below_drew1) | exact HB.out))) | (with_reducible refine Kd.C_alloc ?_ _) | (with_reducible refine Kd.C_drewN ?_ _) | (with_reducible refine Kd.C_drew ?_))); (case side2 => exact HC1.out); rintro e w85 ⟨rfl, hb⟩; refine ⟨_, rfl, ?_⟩; have n0_ := Aside0.mk (below_step (by repeat (first | (with_reducible first | exact HB.out | apply below_alloc | apply pw_below_drewN | apply below_drew1) | exact HB.out)) hb); clear HB; have HB := n0_; clear n0_; (try clear hb); (try clear hb2); (try clear hk); (try clear hi)) | ((with_reducible refine gate_callee (f := 31) rfl ?_); refine goesL_ (some 191) rfl rfl Try.func31 (by kernel_rfl) rfl #[.string t187] rfl (by (try simp only [List.map_toArray, List.map_cons, List.map_nil]); first | done | rfl | (simp only [List.length_drop, List.length_take]; rfl)) ?_; (with_reducible refine (impl_SumOf.calls t187 t188 t189 _ A59.out).mono ?_); rintro e w86 ⟨rfl, hb⟩; refine ⟨_, rfl, ?_⟩; have n0_ := Aside0.mk (below_step (by repeat (first | (with_reducible first | exact HB.out | apply below_alloc | apply pw_below_drewN | apply below_drew1) | exact HB.out)) hb); clear HB; have HB := n0_; clear n0_; (try clear hb); (try clear hb2); (try clear hk); (try clear hi)) | ((with_reducible refine gate_callee (f := 38) rfl ?_); refine goesL_ (some 196) rfl rfl Try.func38 (by kernel_rfl) rfl #[.string t187] rfl (by (try simp only [List.map_toArray, List.map_cons, List.map_nil]); first | done | rfl | (simp only [List.length_drop, List.length_take]; rfl)) ?_; (with_reducible refine (spec_SumOf.calls kj12 t187 t190 t191 _ A60.out).mono ?_); rintro e w' ⟨rfl, ⟨nd, rfl⟩⟩; refine ⟨_, rfl, ?_⟩) | ((with_reducible refine gate_callee (f := 39) rfl ?_); refine goesL_ (some 201) rfl rfl Try.func39 (by kernel_rfl) rfl #[.slice A1 l1.length c1] rfl (by (try simp only [List.map_toArray, List.map_cons, List.map_nil]); first | done | rfl | (simp only [List.length_drop, List.length_take]; rfl)) ?_; (with_reducible refine (spec_DrawSumZeros.calls _ _ l1 t192 t193 _ ?side1 ?side2 A61.out).mono ?_); (case side1 => repeat (first | exact (Kd.C_below HR1.out (by repeat (first | (with_reducible first | exact HB.out | apply below_alloc | apply pw_below_drewN | apply below_drew1) | exact HB.out))) | (with_reducible refine Kd.C_alloc ?_ _) | (with_reducible refine Kd.C_drewN ?_ _) | (with_reducible refine Kd.C_drew ?_))); (case side2 => exact HC1.out); rintro e w87 ⟨rfl, hb⟩; refine ⟨_, rfl, ?_⟩; have n0_ := Aside0.mk (below_step (by repeat (first | (with_reducible first | exact HB.out | apply below_alloc | apply pw_below_drewN | apply below_drew1) | exact HB.out)) hb); clear HB; have HB := n0_; clear n0_; (try clear hb); (try clear hb2); (try clear hk); (try clear hi)) | ((with_reducible refine gate_callee (f := 34) rfl ?_); refine goesL_ (some 207) rfl rfl Try.func34 (by kernel_rfl) rfl #[.int .i64 t192, .int .i64 t193] rfl (by (try simp only [List.map_toArray, List.map_cons, List.map_nil]); first | done | rfl | (simp only [List.length_drop, List.length_take]; rfl)) ?_; (with_reducible refine (impl_SumZeros.calls kj12 t192 t193 t194 t195 _ A62.out).mono ?_); rintro e w88 ⟨rfl, hb⟩; refine ⟨_, rfl, ?_⟩; have n0_ := Aside0.mk (below_step (by repeat (first | (with_reducible first | exact HB.out | apply below_alloc | apply pw_below_drewN | apply below_drew1) | exact HB.out)) hb); clear HB; have HB := n0_; clear n0_; (try clear hb); (try clear hb2); (try clear hk); (try clear hi)) | ((with_reducible refine gate_callee (f := 40) rfl ?_); refine goesL_ (some 213) rfl rfl Try.func40 (by kernel_rfl) rfl #[.int .i64 t192, .int .i64 t193] rfl (by (try simp only [List.map_toArray, List.map_cons, List.map_nil]); first | done | rfl | (simp only [List.length_drop, List.length_take]; rfl)) ?_; (with_reducible refine (spec_SumZeros.calls kj12 t192 t193 t196 t197 _ A63.out).mono ?_); rintro e w89 ⟨rfl, hb⟩; refine ⟨_, rfl, ?_⟩; have n0_ := Aside0.mk (below_step (by repeat (first | (with_reducible first | exact HB.out | apply below_alloc | apply pw_below_drewN | apply below_drew1) | exact HB.out)) hb); clear HB; have HB := n0_; clear n0_; (try clear hb); (try clear hb2); (try clear hk); (try clear hi)))
                      go_ret
                      exact ⟨by first | rfl | (simp [errW_none, errW_some] <;> rfl) | (simp [*, errW_none, errW_some] <;> rfl), by repeat (first | (with_reducible first | exact HB.out | apply below_alloc | apply pw_below_drewN | apply below_drew1) | exact HB.out)⟩
                  · rw [if_neg c66] at H
                    have c66b0 : (t189 == t191) = false := by simpa using c66
                    (try (have c66b1 : decide (t189 = t191) = false := by simpa using c66))
                    (try (have c66b2 : (t189 == t191) = false := by simpa using c66))
                    (try (have c66b3 : ¬ (t189 = t191) := by simpa using c66))
                    clear c66
                    obtain rfl := Option.some.inj H
                    go_wp2_with (first | ((with_reducible refine gate_callee (f := 35) rfl ?_); refine goesL_ (some 172) rfl rfl Try.func35 (by kernel_rfl) rfl #[.slice A1 l1.length c1] rfl (by (try simp only [List.map_toArray, List.map_cons, List.map_nil]); first | done | rfl | (simp only [List.length_drop, List.length_take]; rfl)) ?_; (with_reducible refine (spec_DrawSumOn.calls kj12 _ _ l1 t181 t182 _ ?side1 ?side2 A55.out).mono ?_); (case side1 => repeat (first | exact (Kd.C_below HR1.out HB.out) | (with_reducible refine Kd.C_alloc ?_ _) | (with_reducible refine Kd.C_drewN ?_ _) | (with_reducible refine Kd.C_drew ?_))); (case side2 => exact HC1.out); rintro e w90 ⟨rfl, hb⟩; refine ⟨_, rfl, ?_⟩; have n0_ := Aside0.mk (below_step (by repeat (first | (with_reducible first | exact HB.out | apply below_alloc | apply pw_below_drewN | apply below_drew1) | exact HB.out)) hb); clear HB; have HB := n0_; clear n0_; (try clear hb); (try clear hb2); (try clear hk); (try clear hi)) | ((with_reducible refine gate_callee (f := 33) rfl ?_); refine goesL_ (some 178) rfl rfl Try.func33 (by kernel_rfl) rfl #[.int .i64 t181, .string t182] rfl (by (try simp only [List.map_toArray, List.map_cons, List.map_nil]); first | done | rfl | (simp only [List.length_drop, List.length_take]; rfl)) ?_; (with_reducible refine (impl_SumOn.calls t181 t182 t183 t184 _ A56.out).mono ?_); rintro e w91 ⟨rfl, hb⟩; refine ⟨_, rfl, ?_⟩; have n0_ := Aside0.mk (below_step (by repeat (first | (with_reducible first | exact HB.out | apply below_alloc | apply pw_below_drewN | apply below_drew1) | exact HB.out)) hb); clear HB; have HB := n0_; clear n0_; (try clear hb); (try clear hb2); (try clear hk); (try clear hi)) | ((with_reducible refine gate_callee (f := 36) rfl ?_); refine goesL_ (some 184) rfl rfl Try.func36 (by kernel_rfl) rfl #[.int .i64 t181, .string t182] rfl (by (try simp only [List.map_toArray, List.map_cons, List.map_nil]); first | done | rfl | (simp only [List.length_drop, List.length_take]; rfl)) ?_; (with_reducible refine (spec_SumOn.calls kj12 t181 t182 t185 t186 _ A57.out).mono ?_); rintro e w' ⟨rfl, ⟨nd, rfl⟩⟩; refine ⟨_, rfl, ?_⟩) | ((with_reducible refine gate_callee (f := 37) rfl ?_); refine goesL_ (some 188) rfl rfl Try.func37 (by kernel_rfl) rfl #[.slice A1 l1.length c1] rfl (by (try simp only [List.map_toArray, List.map_cons, List.map_nil]); first | done | rfl | (simp only [List.length_drop, List.length_take]; rfl)) ?_; (with_reducible refine (spec_DrawSumOf.calls kj12 _ _ l1 t187 _ ?side1 ?side2 A58.out).mono ?_); (case side1 => repeat (first | exact (Kd.C_below HR1.out (by repeat (first | (with_reducible first | exact HB.out | apply below_alloc | apply pw_below_drewN | apply below_drew1) | exact HB.out))) | (with_reducible refine Kd.C_alloc ?_ _) | (with_reducible refine Kd.C_drewN ?_ _) | (with_reducible refine Kd.C_drew ?_))); (case side2 => exact HC1.out); rintro e w92 ⟨rfl, hb⟩; refine ⟨_, rfl, ?_⟩; have n0_ := Aside0.mk (below_step (by repeat (first | (with_reducible first | exact HB.out | apply below_alloc | apply pw_below_drewN | apply below_drew1) | exact HB.out)) hb); clear HB; have HB := n0_; clear n0_; (try clear hb); (try clear hb2); (try clear hk); (try clear hi)) | ((with_reducible refine gate_callee (f := 31) rfl ?_); refine goesL_ (some 191) rfl rfl Try.func31 (by kernel_rfl) rfl #[.string t187] rfl (by (try simp only [List.map_toArray, List.map_cons, List.map_nil]); first | done | rfl | (simp only [List.length_drop, List.length_take]; rfl)) ?_; (with_reducible refine (impl_SumOf.calls t187 t188 t189 _ A59.out).mono ?_); rintro e w93 ⟨rfl, hb⟩; refine ⟨_, rfl, ?_⟩; have n0_ := Aside0.mk (below_step (by repeat (first | (with_reducible first | exact HB.out | apply below_alloc | apply pw_below_drewN | apply below_drew1) | exact HB.out)) hb); clear HB; have HB := n0_; clear n0_; (try clear hb); (try clear hb2); (try clear hk); (try clear hi)) | ((with_reducible refine gate_callee (f := 38) rfl ?_); refine goesL_ (some 196) rfl rfl Try.func38 (by kernel_rfl) rfl #[.string t187] rfl (by (try simp only [List.map_toArray, List.map_cons, List.map_nil]); first | done | rfl | (simp only [List.length_drop, List.length_take]; rfl)) ?_; (with_reducible refine (spec_SumOf.calls kj12 t187 t190 t191 _ A60.out).mono ?_); rintro e w' ⟨rfl, ⟨nd, rfl⟩⟩; refine ⟨_, rfl, ?_⟩) | ((with_reducible refine gate_callee (f := 39) rfl ?_); refine goesL_ (some 201) rfl rfl Try.func39 (by kernel_rfl) rfl #[.slice A1 l1.length c1] rfl (by (try simp only [List.map_toArray, List.map_cons, List.map_nil]); first | done | rfl | (simp only [List.length_drop, List.length_take]; rfl)) ?_; (with_reducible refine (spec_DrawSumZeros.calls _ _ l1 t192 t193 _ ?side1 ?side2 A61.out).mono ?_); (case side1 => repeat (first | exact (Kd.C_below HR1.out (by repeat (first | (with_reducible first | exact HB.out | apply below_alloc | apply pw_below_drewN | apply below_drew1) | exact HB.out))) | (with_reducible refine Kd.C_alloc ?_ _) | (with_reducible refine Kd.C_drewN ?_ _) | (with_reducible refine Kd.C_drew ?_))); (case side2 => exact HC1.out); rintro e w94 ⟨rfl, hb⟩; refine ⟨_, rfl, ?_⟩; have n0_ := Aside0.mk (below_step (by repeat (first | (with_reducible first | exact HB.out | apply below_alloc | apply pw_below_drewN | apply below_drew1) | exact HB.out)) hb); clear HB; have HB := n0_; clear n0_; (try clear hb); (try clear hb2); (try clear hk); (try clear hi)) | ((with_reducible refine gate_callee (f := 34) rfl ?_); refine goesL_ (some 207) rfl rfl Try.func34 (by kernel_rfl) rfl #[.int .i64 t192, .int .i64 t193] rfl (by (try simp only [List.map_toArray, List.map_cons, List.map_nil]); first | done | rfl | (simp only [List.length_drop, List.length_take]; rfl)) ?_; (with_reducible refine (impl_SumZeros.calls kj12 t192 t193 t194 t195 _ A62.out).mono ?_); rintro e w95 ⟨rfl, hb⟩; refine ⟨_, rfl, ?_⟩; have n0_ := Aside0.mk (below_step (by repeat (first | (with_reducible first | exact HB.out | apply below_alloc | apply pw_below_drewN | apply below_drew1) | exact HB.out)) hb); clear HB; have HB := n0_; clear n0_; (try clear hb); (try clear hb2); (try clear hk); (try clear hi)) | ((with_reducible refine gate_callee (f := 40) rfl ?_); refine goesL_ (some 213) rfl rfl Try.func40 (by kernel_rfl) rfl #[.int .i64 t192, .int .i64 t193] rfl (by (try simp only [List.map_toArray, List.map_cons, List.map_nil]); first | done | rfl | (simp only [List.length_drop, List.length_take]; rfl)) ?_; (with_reducible refine (spec_SumZeros.calls kj12 t192 t193 t196 t197 _ A63.out).mono ?_); rintro e w96 ⟨rfl, hb⟩; refine ⟨_, rfl, ?_⟩; have n0_ := Aside0.mk (below_step (by repeat (first | (with_reducible first | exact HB.out | apply below_alloc | apply pw_below_drewN | apply below_drew1) | exact HB.out)) hb); clear HB; have HB := n0_; clear n0_; (try clear hb); (try clear hb2); (try clear hk); (try clear hi)))
                    go_ret
                    exact ⟨by first | rfl | (simp [errW_none, errW_some] <;> rfl) | (simp [*, errW_none, errW_some] <;> rfl), by repeat (first | (with_reducible first | exact HB.out | apply below_alloc | apply pw_below_drewN | apply below_drew1) | exact HB.out)⟩
                · rw [if_neg c65] at H
                  have c65b0 : (t183 == t185) = false := beq_eq_false_iff_ne.mpr c65
                  have c65b1 : (t183 != t185) = true := bne_iff_ne.mpr c65
                  obtain rfl := Option.some.inj H
                  go_wp2_with (first | ((with_reducible refine gate_callee (f := 35) rfl ?_); refine goesL_ (some 172) rfl rfl Try.func35 (by kernel_rfl) rfl #[.slice A1 l1.length c1] rfl (by (try simp only [List.map_toArray, List.map_cons, List.map_nil]); first | done | rfl | (simp only [List.length_drop, List.length_take]; rfl)) ?_; (with_reducible refine (spec_DrawSumOn.calls kj12 _ _ l1 t181 t182 _ ?side1 ?side2 A55.out).mono ?_); (case side1 => repeat (first | exact (Kd.C_below HR1.out HB.out) | (with_reducible refine Kd.C_alloc ?_ _) | (with_reducible refine Kd.C_drewN ?_ _) | (with_reducible refine Kd.C_drew ?_))); (case side2 => exact HC1.out); rintro e w97 ⟨rfl, hb⟩; refine ⟨_, rfl, ?_⟩; have n0_ := Aside0.mk (below_step (by repeat (first | (with_reducible first | exact HB.out | apply below_alloc | apply pw_below_drewN | apply below_drew1) | exact HB.out)) hb); clear HB; have HB := n0_; clear n0_; (try clear hb); (try clear hb2); (try clear hk); (try clear hi)) | ((with_reducible refine gate_callee (f := 33) rfl ?_); refine goesL_ (some 178) rfl rfl Try.func33 (by kernel_rfl) rfl #[.int .i64 t181, .string t182] rfl (by (try simp only [List.map_toArray, List.map_cons, List.map_nil]); first | done | rfl | (simp only [List.length_drop, List.length_take]; rfl)) ?_; (with_reducible refine (impl_SumOn.calls t181 t182 t183 t184 _ A56.out).mono ?_); rintro e w98 ⟨rfl, hb⟩; refine ⟨_, rfl, ?_⟩; have n0_ := Aside0.mk (below_step (by repeat (first | (with_reducible first | exact HB.out | apply below_alloc | apply pw_below_drewN | apply below_drew1) | exact HB.out)) hb); clear HB; have HB := n0_; clear n0_; (try clear hb); (try clear hb2); (try clear hk); (try clear hi)) | ((with_reducible refine gate_callee (f := 36) rfl ?_); refine goesL_ (some 184) rfl rfl Try.func36 (by kernel_rfl) rfl #[.int .i64 t181, .string t182] rfl (by (try simp only [List.map_toArray, List.map_cons, List.map_nil]); first | done | rfl | (simp only [List.length_drop, List.length_take]; rfl)) ?_; (with_reducible refine (spec_SumOn.calls kj12 t181 t182 t185 t186 _ A57.out).mono ?_); rintro e w' ⟨rfl, ⟨nd, rfl⟩⟩; refine ⟨_, rfl, ?_⟩) | ((with_reducible refine gate_callee (f := 37) rfl ?_); refine goesL_ (some 188) rfl rfl Try.func37 (by kernel_rfl) rfl #[.slice A1 l1.length c1] rfl (by (try simp only [List.map_toArray, List.map_cons, List.map_nil]); first | done | rfl | (simp only [List.length_drop, List.length_take]; rfl)) ?_; (with_reducible refine (spec_DrawSumOf.calls kj12 _ _ l1 t187 _ ?side1 ?side2 A58.out).mono ?_); (case side1 => repeat (first | exact (Kd.C_below HR1.out (by repeat (first | (with_reducible first | exact HB.out | apply below_alloc | apply pw_below_drewN | apply below_drew1) | exact HB.out))) | (with_reducible refine Kd.C_alloc ?_ _) | (with_reducible refine Kd.C_drewN ?_ _) | (with_reducible refine Kd.C_drew ?_))); (case side2 => exact HC1.out); rintro e w99 ⟨rfl, hb⟩; refine ⟨_, rfl, ?_⟩; have n0_ := Aside0.mk (below_step (by repeat (first | (with_reducible first | exact HB.out | apply below_alloc | apply pw_below_drewN | apply below_drew1) | exact HB.out)) hb); clear HB; have HB := n0_; clear n0_; (try clear hb); (try clear hb2); (try clear hk); (try clear hi)) | ((with_reducible refine gate_callee (f := 31) rfl ?_); refine goesL_ (some 191) rfl rfl Try.func31 (by kernel_rfl) rfl #[.string t187] rfl (by (try simp only [List.map_toArray, List.map_cons, List.map_nil]); first | done | rfl | (simp only [List.length_drop, List.length_take]; rfl)) ?_; (with_reducible refine (impl_SumOf.calls t187 t188 t189 _ A59.out).mono ?_); rintro e w100 ⟨rfl, hb⟩; refine ⟨_, rfl, ?_⟩; have n0_ := Aside0.mk (below_step (by repeat (first | (with_reducible first | exact HB.out | apply below_alloc | apply pw_below_drewN | apply below_drew1) | exact HB.out)) hb); clear HB; have HB := n0_; clear n0_; (try clear hb); (try clear hb2); (try clear hk); (try clear hi)) | ((with_reducible refine gate_callee (f := 38) rfl ?_); refine goesL_ (some 196) rfl rfl Try.func38 (by kernel_rfl) rfl #[.string t187] rfl (by (try simp only [List.map_toArray, List.map_cons, List.map_nil]); first | done | rfl | (simp only [List.length_drop, List.length_take]; rfl)) ?_; (with_reducible refine (spec_SumOf.calls kj12 t187 t190 t191 _ A60.out).mono ?_); rintro e w' ⟨rfl, ⟨nd, rfl⟩⟩; refine ⟨_, rfl, ?_⟩) | ((with_reducible refine gate_callee (f := 39) rfl ?_); refine goesL_ (some 201) rfl rfl Try.func39 (by kernel_rfl) rfl #[.slice A1 l1.length c1] rfl (by (try simp only [List.map_toArray, List.map_cons, List.map_nil]); first | done | rfl | (simp only [List.length_drop, List.length_take]; rfl)) ?_; (with_reducible refine (spec_DrawSumZeros.calls _ _ l1 t192 t193 _ ?side1 ?side2 A61.out).mono ?_); (case side1 => repeat (first | exact (Kd.C_below HR1.out (by repeat (first | (with_reducible first | exact HB.out | apply below_alloc | apply pw_below_drewN | apply below_drew1) | exact HB.out))) | (with_reducible refine Kd.C_alloc ?_ _) | (with_reducible refine Kd.C_drewN ?_ _) | (with_reducible refine Kd.C_drew ?_))); (case side2 => exact HC1.out); rintro e w101 ⟨rfl, hb⟩; refine ⟨_, rfl, ?_⟩; have n0_ := Aside0.mk (below_step (by repeat (first | (with_reducible first | exact HB.out | apply below_alloc | apply pw_below_drewN | apply below_drew1) | exact HB.out)) hb); clear HB; have HB := n0_; clear n0_; (try clear hb); (try clear hb2); (try clear hk); (try clear hi)) | ((with_reducible refine gate_callee (f := 34) rfl ?_); refine goesL_ (some 207) rfl rfl Try.func34 (by kernel_rfl) rfl #[.int .i64 t192, .int .i64 t193] rfl (by (try simp only [List.map_toArray, List.map_cons, List.map_nil]); first | done | rfl | (simp only [List.length_drop, List.length_take]; rfl)) ?_; (with_reducible refine (impl_SumZeros.calls kj12 t192 t193 t194 t195 _ A62.out).mono ?_); rintro e w102 ⟨rfl, hb⟩; refine ⟨_, rfl, ?_⟩; have n0_ := Aside0.mk (below_step (by repeat (first | (with_reducible first | exact HB.out | apply below_alloc | apply pw_below_drewN | apply below_drew1) | exact HB.out)) hb); clear HB; have HB := n0_; clear n0_; (try clear hb); (try clear hb2); (try clear hk); (try clear hi)) | ((with_reducible refine gate_callee (f := 40) rfl ?_); refine goesL_ (some 213) rfl rfl Try.func40 (by kernel_rfl) rfl #[.int .i64 t192, .int .i64 t193] rfl (by (try simp only [List.map_toArray, List.map_cons, List.map_nil]); first | done | rfl | (simp only [List.length_drop, List.length_take]; rfl)) ?_; (with_reducible refine (spec_SumZeros.calls kj12 t192 t193 t196 t197 _ A63.out).mono ?_); rintro e w103 ⟨rfl, hb⟩; refine ⟨_, rfl, ?_⟩; have n0_ := Aside0.mk (below_step (by repeat (first | (with_reducible first | exact HB.out | apply below_alloc | apply pw_below_drewN | apply below_drew1) | exact HB.out)) hb); clear HB; have HB := n0_; clear n0_; (try clear hb); (try clear hb2); (try clear hk); (try clear hi)))
                  go_ret
                  exact ⟨by first | rfl | (simp [errW_none, errW_some] <;> rfl) | (simp [*, errW_none, errW_some] <;> rfl), by repeat (first | (with_reducible first | exact HB.out | apply below_alloc | apply pw_below_drewN | apply below_drew1) | exact HB.out)⟩
              · rw [if_neg c64] at H
                have c64b0 : (t184 == t186) = false := by simpa using c64
                (try (have c64b1 : decide (t184 = t186) = false := by simpa using c64))
                (try (have c64b2 : (t184 == t186) = false := by simpa using c64))
                (try (have c64b3 : ¬ (t184 = t186) := by simpa using c64))
                clear c64
                obtain rfl := Option.some.inj H
                go_wp2_with (first | ((with_reducible refine gate_callee (f := 35) rfl ?_); refine goesL_ (some 172) rfl rfl Try.func35 (by kernel_rfl) rfl #[.slice A1 l1.length c1] rfl (by (try simp only [List.map_toArray, List.map_cons, List.map_nil]); first | done | rfl | (simp only [List.length_drop, List.length_take]; rfl)) ?_; (with_reducible refine (spec_DrawSumOn.calls kj12 _ _ l1 t181 t182 _ ?side1 ?side2 A55.out).mono ?_); (case side1 => repeat (first | exact (Kd.C_below HR1.out HB.out) | (with_reducible refine Kd.C_alloc ?_ _) | (with_reducible refine Kd.C_drewN ?_ _) | (with_reducible refine Kd.C_drew ?_))); (case side2 => exact HC1.out); rintro e w104 ⟨rfl, hb⟩; refine ⟨_, rfl, ?_⟩; have n0_ := Aside0.mk (below_step (by repeat (first | (with_reducible first | exact HB.out | apply below_alloc | apply pw_below_drewN | apply below_drew1) | exact HB.out)) hb); clear HB; have HB := n0_; clear n0_; (try clear hb); (try clear hb2); (try clear hk); (try clear hi)) | ((with_reducible refine gate_callee (f := 33) rfl ?_); refine goesL_ (some 178) rfl rfl Try.func33 (by kernel_rfl) rfl #[.int .i64 t181, .string t182] rfl (by (try simp only [List.map_toArray, List.map_cons, List.map_nil]); first | done | rfl | (simp only [List.length_drop, List.length_take]; rfl)) ?_; (with_reducible refine (impl_SumOn.calls t181 t182 t183 t184 _ A56.out).mono ?_); rintro e w105 ⟨rfl, hb⟩; refine ⟨_, rfl, ?_⟩; have n0_ := Aside0.mk (below_step (by repeat (first | (with_reducible first | exact HB.out | apply below_alloc | apply pw_below_drewN | apply below_drew1) | exact HB.out)) hb); clear HB; have HB := n0_; clear n0_; (try clear hb); (try clear hb2); (try clear hk); (try clear hi)) | ((with_reducible refine gate_callee (f := 36) rfl ?_); refine goesL_ (some 184) rfl rfl Try.func36 (by kernel_rfl) rfl #[.int .i64 t181, .string t182] rfl (by (try simp only [List.map_toArray, List.map_cons, List.map_nil]); first | done | rfl | (simp only [List.length_drop, List.length_take]; rfl)) ?_; (with_reducible refine (spec_SumOn.calls kj12 t181 t182 t185 t186 _ A57.out).mono ?_); rintro e w' ⟨rfl, ⟨nd, rfl⟩⟩; refine ⟨_, rfl, ?_⟩) | ((with_reducible refine gate_callee (f := 37) rfl ?_); refine goesL_ (some 188) rfl rfl Try.func37 (by kernel_rfl) rfl #[.slice A1 l1.length c1] rfl (by (try simp only [List.map_toArray, List.map_cons, List.map_nil]); first | done | rfl | (simp only [List.length_drop, List.length_take]; rfl)) ?_; (with_reducible refine (spec_DrawSumOf.calls kj12 _ _ l1 t187 _ ?side1 ?side2 A58.out).mono ?_); (case side1 => repeat (first | exact (Kd.C_below HR1.out (by repeat (first | (with_reducible first | exact HB.out | apply below_alloc | apply pw_below_drewN | apply below_drew1) | exact HB.out))) | (with_reducible refine Kd.C_alloc ?_ _) | (with_reducible refine Kd.C_drewN ?_ _) | (with_reducible refine Kd.C_drew ?_))); (case side2 => exact HC1.out); rintro e w106 ⟨rfl, hb⟩; refine ⟨_, rfl, ?_⟩; have n0_ := Aside0.mk (below_step (by repeat (first | (with_reducible first | exact HB.out | apply below_alloc | apply pw_below_drewN | apply below_drew1) | exact HB.out)) hb); clear HB; have HB := n0_; clear n0_; (try clear hb); (try clear hb2); (try clear hk); (try clear hi)) | ((with_reducible refine gate_callee (f := 31) rfl ?_); refine goesL_ (some 191) rfl rfl Try.func31 (by kernel_rfl) rfl #[.string t187] rfl (by (try simp only [List.map_toArray, List.map_cons, List.map_nil]); first | done | rfl | (simp only [List.length_drop, List.length_take]; rfl)) ?_; (with_reducible refine (impl_SumOf.calls t187 t188 t189 _ A59.out).mono ?_); rintro e w107 ⟨rfl, hb⟩; refine ⟨_, rfl, ?_⟩; have n0_ := Aside0.mk (below_step (by repeat (first | (with_reducible first | exact HB.out | apply below_alloc | apply pw_below_drewN | apply below_drew1) | exact HB.out)) hb); clear HB; have HB := n0_; clear n0_; (try clear hb); (try clear hb2); (try clear hk); (try clear hi)) | ((with_reducible refine gate_callee (f := 38) rfl ?_); refine goesL_ (some 196) rfl rfl Try.func38 (by kernel_rfl) rfl #[.string t187] rfl (by (try simp only [List.map_toArray, List.map_cons, List.map_nil]); first | done | rfl | (simp only [List.length_drop, List.length_take]; rfl)) ?_; (with_reducible refine (spec_SumOf.calls kj12 t187 t190 t191 _ A60.out).mono ?_); rintro e w' ⟨rfl, ⟨nd, rfl⟩⟩; refine ⟨_, rfl, ?_⟩) | ((with_reducible refine gate_callee (f := 39) rfl ?_); refine goesL_ (some 201) rfl rfl Try.func39 (by kernel_rfl) rfl #[.slice A1 l1.length c1] rfl (by (try simp only [List.map_toArray, List.map_cons, List.map_nil]); first | done | rfl | (simp only [List.length_drop, List.length_take]; rfl)) ?_; (with_reducible refine (spec_DrawSumZeros.calls _ _ l1 t192 t193 _ ?side1 ?side2 A61.out).mono ?_); (case side1 => repeat (first | exact (Kd.C_below HR1.out (by repeat (first | (with_reducible first | exact HB.out | apply below_alloc | apply pw_below_drewN | apply below_drew1) | exact HB.out))) | (with_reducible refine Kd.C_alloc ?_ _) | (with_reducible refine Kd.C_drewN ?_ _) | (with_reducible refine Kd.C_drew ?_))); (case side2 => exact HC1.out); rintro e w108 ⟨rfl, hb⟩; refine ⟨_, rfl, ?_⟩; have n0_ := Aside0.mk (below_step (by repeat (first | (with_reducible first | exact HB.out | apply below_alloc | apply pw_below_drewN | apply below_drew1) | exact HB.out)) hb); clear HB; have HB := n0_; clear n0_; (try clear hb); (try clear hb2); (try clear hk); (try clear hi)) | ((with_reducible refine gate_callee (f := 34) rfl ?_); refine goesL_ (some 207) rfl rfl Try.func34 (by kernel_rfl) rfl #[.int .i64 t192, .int .i64 t193] rfl (by (try simp only [List.map_toArray, List.map_cons, List.map_nil]); first | done | rfl | (simp only [List.length_drop, List.length_take]; rfl)) ?_; (with_reducible refine (impl_SumZeros.calls kj12 t192 t193 t194 t195 _ A62.out).mono ?_); rintro e w109 ⟨rfl, hb⟩; refine ⟨_, rfl, ?_⟩; have n0_ := Aside0.mk (below_step (by repeat (first | (with_reducible first | exact HB.out | apply below_alloc | apply pw_below_drewN | apply below_drew1) | exact HB.out)) hb); clear HB; have HB := n0_; clear n0_; (try clear hb); (try clear hb2); (try clear hk); (try clear hi)) | ((with_reducible refine gate_callee (f := 40) rfl ?_); refine goesL_ (some 213) rfl rfl Try.func40 (by kernel_rfl) rfl #[.int .i64 t192, .int .i64 t193] rfl (by (try simp only [List.map_toArray, List.map_cons, List.map_nil]); first | done | rfl | (simp only [List.length_drop, List.length_take]; rfl)) ?_; (with_reducible refine (spec_SumZeros.calls kj12 t192 t193 t196 t197 _ A63.out).mono ?_); rintro e w110 ⟨rfl, hb⟩; refine ⟨_, rfl, ?_⟩; have n0_ := Aside0.mk (below_step (by repeat (first | (with_reducible first | exact HB.out | apply below_alloc | apply pw_below_drewN | apply below_drew1) | exact HB.out)) hb); clear HB; have HB := n0_; clear n0_; (try clear hb); (try clear hb2); (try clear hk); (try clear hi)))
                go_ret
                exact ⟨by first | rfl | (simp [errW_none, errW_some] <;> rfl) | (simp [*, errW_none, errW_some] <;> rfl), by repeat (first | (with_reducible first | exact HB.out | apply below_alloc | apply pw_below_drewN | apply below_drew1) | exact HB.out)⟩

/-- THE ONE PURE STATEMENT of laws_FnLinear: yours. -/
def laws_FnLinear.Pure : Prop := ∀ (l0 : List Int) (l1 : List Int), l0.length ≤ maxLen → l0.length * 1 ≤ 140737488351232 → (∀ x ∈ l0, (Lit.int .u8 x).wf = true) → l1.length ≤ maxLen → l1.length * 1 ≤ 140737488351232 → (∀ x ∈ l1, (Lit.int .u8 x).wf = true) → ∃ k, laws_FnLinear.f k l0 l1 = some true
theorem laws_FnLinear.walk (P : laws_FnLinear.Pure) (a0 : Option Addr) (len0 cap0 : Nat) (z0 : List Int) (a1 : Option Addr) (len1 cap1 : Nat) (z1 : List Int) (w : World) (w0 : (a0 = none ∧ len0 = 0 ∧ cap0 = 0 ∧ z0 = []) ∨ ∃ x, a0 = some x ∧ len0 ≤ cap0 ∧ cap0 ≤ maxLen ∧ z0.length = cap0 ∧ (∀ i, i < z0.length → w.cell? (x.add i) = some (.int .u8 (z0.getD i 0))) ∧ ∀ n ∈ z0, (Lit.int .u8 n).wf = true) (y0 : len0 * 1 ≤ 140737488351232) (w1 : (a1 = none ∧ len1 = 0 ∧ cap1 = 0 ∧ z1 = []) ∨ ∃ x, a1 = some x ∧ len1 ≤ cap1 ∧ cap1 ≤ maxLen ∧ z1.length = cap1 ∧ (∀ i, i < z1.length → w.cell? (x.add i) = some (.int .u8 (z1.getD i 0))) ∧ ∀ n ∈ z1, (Lit.int .u8 n).wf = true) (y1 : len1 * 1 ≤ 140737488351232) :
    Calls Try.prog 8 #[.slice a0 len0 cap0, .slice a1 len1 cap1] w fun e w' => e = .returned (.bool true) ∧ Below w.heap.size w w' := by
  obtain ⟨l0, rfl, hr0, hm0, hw0, hc0⟩ := ReadsInt.ofRowC w0
  obtain ⟨l1, rfl, hr1, hm1, hw1, hc1⟩ := ReadsInt.ofRowC w1
  obtain ⟨k, h⟩ := P l0 l1 hm0 y0 hw0 hm1 y1 hw1
  refine (laws_FnLinear.calls k _ _ l0 _ _ l1 true w (Kd.C_of_reads (d := (0 : Int)) (h1 := fun _ => rfl) hr0) hc0 (Kd.C_of_reads (d := (0 : Int)) (h1 := fun _ => rfl) hr1) hc1 h).mono ?_
  rintro e w' ⟨rfl, hd⟩
  exact ⟨rfl, hd⟩

end Go.Proofs.Ytjpeedbabjaidaa.PL

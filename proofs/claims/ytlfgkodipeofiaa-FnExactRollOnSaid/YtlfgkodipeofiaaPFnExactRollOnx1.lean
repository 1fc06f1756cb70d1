-- PRINTED BY print.sh 35421559b90ae4d0a3588c463048766b98c2df88dd9212a6774a882060cdf62d: not written by this session
import Derived.Test.YtlfgkodipeofiaaPFnExactRollOnx0
namespace Go.Proofs.Ytlfgkodipeofiaa.PFnExactRollOn
open Go.RowKit Go.Proofs.YtlfgkodipeofiaaW.PrintWords Go.Proofs.YtlfgkodipeofiaaW.PrintLast Go.Proofs.YtlfgkodipeofiaaW.PrintMore
attribute [local go_sem] max2_int min2_int max_two min_two max_three min_three max_four min_four   -- for this text's walks alone
set_option linter.unusedVariables false
set_option linter.unusedSimpArgs false

/-! ### spec_l1In: function 37 -/
def spec_l1In.f (a0 : Int) (a1 : Int) (a2 : Int) : Option (Bool) := if a0 ≥ a1 then (some (decide (a0 ≤ a2))) else (some false)
set_option maxHeartbeats 8000000 in
set_option maxRecDepth 100000 in
theorem spec_l1In.calls (a0 : Int) (a1 : Int) (a2 : Int) (r : Bool) (w : World) (h : spec_l1In.f a0 a1 a2 = some r) :
    Calls Try.prog 37 #[.int .i64 a0, .int .i64 a1, .int .i64 a2] w fun e w' => e = .returned (.bool r) ∧ Drawn0 w w' := by
  have H : (if a0 ≥ a1 then (some (decide (a0 ≤ a2))) else (some false)) = some r := h
  clear h
  by_cases c4 : a0 ≥ a1
  · rw [if_pos c4] at H
    have c4b0 : decide (a1 ≤ a0) = true := decide_eq_true c4
    clear c4
    obtain rfl := Option.some.inj H
    go_enter Try.func37, Try.ntmps37
    go_wp2
    go_ret
    exact ⟨by first | rfl | (simp; done) | (simp [*]; done), by repeat (first | exact Drawn0.refl _ | apply Drawn0.step)⟩
  · rw [if_neg c4] at H
    have c4b0 : decide (a1 ≤ a0) = false := decide_eq_false c4
    clear c4
    obtain rfl := Option.some.inj H
    go_enter Try.func37, Try.ntmps37
    go_wp2
    go_ret
    exact ⟨by first | rfl | (simp; done) | (simp [*]; done), by repeat (first | exact Drawn0.refl _ | apply Drawn0.step)⟩

/-! ### spec_RollOn: function 11 -/
def spec_RollOn.f (a0 : Int) (a1 : Int) (a2 : Int) (a3 : Int) : Option (Int × Bool) := if a0 < 0 then (some (0, false)) else (if (Int.tmod a0 256) > 250 then (some (0, false)) else (if (wrap64 (Int.tdiv a0 256)) > 250 then (some (0, false)) else ((spec_l1In.f a3 1 120).bind fun t101 => (if t101 = true then (some (wrap64 ((wrap64 (256 * (Int.tmod (wrap64 ((wrap64 ((wrap64 ((wrap64 (Int.tdiv a0 256)) + 64256)) - (Int.tmod (wrap64 (a3 * (wrap64 (a1)))) 251))) + (Int.tmod (wrap64 ((wrap64 ((wrap64 ((Int.tmod a0 256) + 502)) - (wrap64 (a1)))) + (wrap64 (a2)))) 251))) 251))) + (Int.tmod (wrap64 ((wrap64 ((wrap64 ((Int.tmod a0 256) + 502)) - (wrap64 (a1)))) + (wrap64 (a2)))) 251)), true)) else (some (0, false))))))
set_option maxHeartbeats 8000000 in
set_option maxRecDepth 100000 in
theorem spec_RollOn.calls (a0 : Int) (a1 : Int) (a2 : Int) (a3 : Int) (r1 : Int) (r2 : Bool) (w : World) (h : spec_RollOn.f a0 a1 a2 a3 = some (r1, r2)) :
    Calls Try.prog 11 #[.int .i64 a0, .int .u8 a1, .int .u8 a2, .int .i64 a3] w fun e w' => e = .returned (.tuple #[.int .i64 r1, .bool r2]) ∧ Drawn0 w w' := by
  have H : (if a0 < 0 then (some (0, false)) else (if (Int.tmod a0 256) > 250 then (some (0, false)) else (if (wrap64 (Int.tdiv a0 256)) > 250 then (some (0, false)) else ((spec_l1In.f a3 1 120).bind fun t101 => (if t101 = true then (some (wrap64 ((wrap64 (256 * (Int.tmod (wrap64 ((wrap64 ((wrap64 ((wrap64 (Int.tdiv a0 256)) + 64256)) - (Int.tmod (wrap64 (a3 * (wrap64 (a1)))) 251))) + (Int.tmod (wrap64 ((wrap64 ((wrap64 ((Int.tmod a0 256) + 502)) - (wrap64 (a1)))) + (wrap64 (a2)))) 251))) 251))) + (Int.tmod (wrap64 ((wrap64 ((wrap64 ((Int.tmod a0 256) + 502)) - (wrap64 (a1)))) + (wrap64 (a2)))) 251)), true)) else (some (0, false))))))) = some (r1, r2) := h
  clear h
  by_cases c5 : a0 < 0
  · rw [if_pos c5] at H
    have c5b0 : decide (a0 < 0) = true := decide_eq_true c5
    clear c5
    simp only [Option.some.injEq, Prod.mk.injEq] at H
    obtain ⟨rfl, rfl⟩ := H
    go_enter Try.func11, Try.ntmps11
    go_wp2
    go_ret2
    exact ⟨by first | rfl | (simp; done) | (simp [*]; done), by repeat (first | exact Drawn0.refl _ | apply Drawn0.step)⟩
  · rw [if_neg c5] at H
    have c5b0 : decide (a0 < 0) = false := decide_eq_false c5
    clear c5
    by_cases c6 : (Int.tmod a0 256) > 250
    · rw [if_pos c6] at H
      have c6b0 : decide (250 < (Int.tmod a0 256)) = true := decide_eq_true c6
      clear c6
      simp only [Option.some.injEq, Prod.mk.injEq] at H
      obtain ⟨rfl, rfl⟩ := H
      go_enter Try.func11, Try.ntmps11
      go_wp2
      go_ret2
      exact ⟨by first | rfl | (simp; done) | (simp [*]; done), by repeat (first | exact Drawn0.refl _ | apply Drawn0.step)⟩
    · rw [if_neg c6] at H
      have c6b0 : decide (250 < (Int.tmod a0 256)) = false := decide_eq_false c6
      clear c6
      by_cases c7 : (wrap64 (Int.tdiv a0 256)) > 250
      · rw [if_pos c7] at H
        have c7b0 : decide (250 < (wrap64 (Int.tdiv a0 256))) = true := decide_eq_true c7
        clear c7
        simp only [Option.some.injEq, Prod.mk.injEq] at H
        obtain ⟨rfl, rfl⟩ := H
        go_enter Try.func11, Try.ntmps11
        go_wp2
        go_ret2
        exact ⟨by first | rfl | (simp; done) | (simp [*]; done), by repeat (first | exact Drawn0.refl _ | apply Drawn0.step)⟩
      · rw [if_neg c7] at H
        have c7b0 : decide (250 < (wrap64 (Int.tdiv a0 256))) = false := decide_eq_false c7
        clear c7
        replace H := Option.bind_eq_some_iff.mp H
        obtain ⟨t101, A80, H⟩ := H
        replace H : (if t101 = true then (some (wrap64 ((wrap64 (256 * (Int.tmod (wrap64 ((wrap64 ((wrap64 ((wrap64 (Int.tdiv a0 256)) + 64256)) - (Int.tmod (wrap64 (a3 * (wrap64 (a1)))) 251))) + (Int.tmod (wrap64 ((wrap64 ((wrap64 ((Int.tmod a0 256) + 502)) - (wrap64 (a1)))) + (wrap64 (a2)))) 251))) 251))) + (Int.tmod (wrap64 ((wrap64 ((wrap64 ((Int.tmod a0 256) + 502)) - (wrap64 (a1)))) + (wrap64 (a2)))) 251)), true)) else (some (0, false))) = some (r1, r2) := H
        have A8 := Aside0.mk A80
        clear A80
        by_cases c9 : t101 = true
        · subst c9
          have H1 : (some (wrap64 ((wrap64 (256 * (Int.tmod (wrap64 ((wrap64 ((wrap64 ((wrap64 (Int.tdiv a0 256)) + 64256)) - (Int.tmod (wrap64 (a3 * (wrap64 (a1)))) 251))) + (Int.tmod (wrap64 ((wrap64 ((wrap64 ((Int.tmod a0 256) + 502)) - (wrap64 (a1)))) + (wrap64 (a2)))) 251))) 251))) + (Int.tmod (wrap64 ((wrap64 ((wrap64 ((Int.tmod a0 256) + 502)) - (wrap64 (a1)))) + (wrap64 (a2)))) 251)), true)) = some (r1, r2) := by rw [if_pos rfl] at H; exact H
          clear H
          have H := H1
          clear H1
          simp only [Option.some.injEq, Prod.mk.injEq] at H
          obtain ⟨rfl, rfl⟩ := H
          go_enter Try.func11, Try.ntmps11
          go_wp2_with (first | (go_at_call 37; (with_reducible refine (spec_l1In.calls a3 1 120 true _ A8.out).mono ?_); rintro e w' ⟨rfl, ⟨nd, rfl⟩⟩))
          go_ret2
          exact ⟨by first | rfl | (simp; done) | (simp [*]; done), by repeat (first | exact Drawn0.refl _ | apply Drawn0.step)⟩
        · replace c9 := Bool.eq_false_iff.mpr c9
          subst c9
          have H1 : (some (0, false)) = some (r1, r2) := by rw [if_neg (show ¬ (false = true) by decide)] at H; exact H
          clear H
          have H := H1
          clear H1
          simp only [Option.some.injEq, Prod.mk.injEq] at H
          obtain ⟨rfl, rfl⟩ := H
          go_enter Try.func11, Try.ntmps11
          go_wp2_with (first | (go_at_call 37; (with_reducible refine (spec_l1In.calls a3 1 120 false _ A8.out).mono ?_); rintro e w' ⟨rfl, ⟨nd, rfl⟩⟩))
          go_ret2
          exact ⟨by first | rfl | (simp; done) | (simp [*]; done), by repeat (first | exact Drawn0.refl _ | apply Drawn0.step)⟩

/-! ### impl_within: function 38 -/
def impl_within.f (a0 : Int) (a1 : Int) (a2 : Int) : Option (Bool) := if a1 ≤ a0 then (some (decide (a0 ≤ a2))) else (some false)
set_option maxHeartbeats 8000000 in
set_option maxRecDepth 100000 in
theorem impl_within.calls (a0 : Int) (a1 : Int) (a2 : Int) (r : Bool) (w : World) (h : impl_within.f a0 a1 a2 = some r) :
    Calls Try.prog 38 #[.int .i64 a0, .int .i64 a1, .int .i64 a2] w fun e w' => e = .returned (.bool r) ∧ Drawn0 w w' := by
  have H : (if a1 ≤ a0 then (some (decide (a0 ≤ a2))) else (some false)) = some r := h
  clear h
  by_cases c4 : a1 ≤ a0
  · rw [if_pos c4] at H
    have c4b0 : decide (a1 ≤ a0) = true := decide_eq_true c4
    clear c4
    obtain rfl := Option.some.inj H
    go_enter Try.func38, Try.ntmps38
    go_wp2
    go_ret
    exact ⟨by first | rfl | (simp; done) | (simp [*]; done), by repeat (first | exact Drawn0.refl _ | apply Drawn0.step)⟩
  · rw [if_neg c4] at H
    have c4b0 : decide (a1 ≤ a0) = false := decide_eq_false c4
    clear c4
    obtain rfl := Option.some.inj H
    go_enter Try.func38, Try.ntmps38
    go_wp2
    go_ret
    exact ⟨by first | rfl | (simp; done) | (simp [*]; done), by repeat (first | exact Drawn0.refl _ | apply Drawn0.step)⟩

/-! ### impl_roll: function 39 -/
def impl_roll.f (a0 : Int) (a1 : Int) : Option (Int) := some (wrap64 ((wrap64 (256 * (Int.tmod a1 251))) + (Int.tmod a0 251)))
set_option maxHeartbeats 8000000 in
set_option maxRecDepth 100000 in
theorem impl_roll.calls (a0 : Int) (a1 : Int) (r : Int) (w : World) (h : impl_roll.f a0 a1 = some r) :
    Calls Try.prog 39 #[.int .i64 a0, .int .i64 a1] w fun e w' => e = .returned (.int .i64 r) ∧ Drawn0 w w' := by
  have H : (some (wrap64 ((wrap64 (256 * (Int.tmod a1 251))) + (Int.tmod a0 251)))) = some r := h
  clear h
  obtain rfl := Option.some.inj H
  go_enter Try.func39, Try.ntmps39
  go_wp2
  go_ret
  exact ⟨by first | rfl | (simp; done) | (simp [*]; done), by repeat (first | exact Drawn0.refl _ | apply Drawn0.step)⟩

/-! ### impl_RollOn: function 12 -/
def impl_RollOn.f (a0 : Int) (a1 : Int) (a2 : Int) (a3 : Int) : Option (Int × Bool) := (impl_within.f (Int.tmod a0 256) 0 250).bind fun t102 => (if t102 = true then ((impl_within.f (wrap64 (Int.tdiv a0 256)) 0 250).bind fun t103 => (if t103 = true then (if a0 < 0 then (some (0, false)) else ((impl_within.f a3 1 120).bind fun t104 => (if t104 = true then ((impl_roll.f (Int.tmod (wrap64 ((wrap64 ((wrap64 ((Int.tmod a0 256) + 502)) - (wrap64 (a1)))) + (wrap64 (a2)))) 251) (Int.tmod (wrap64 ((wrap64 ((wrap64 (Int.tdiv a0 256)) + (wrap64 (a3 * (wrap64 (502 - (wrap64 (a1)))))))) + (Int.tmod (wrap64 ((wrap64 ((wrap64 ((Int.tmod a0 256) + 502)) - (wrap64 (a1)))) + (wrap64 (a2)))) 251))) 251)).bind fun t105 => (some (t105, true))) else (some (0, false))))) else (some (0, false)))) else (some (0, false)))
set_option maxHeartbeats 8000000 in
set_option maxRecDepth 100000 in
theorem impl_RollOn.calls (a0 : Int) (a1 : Int) (a2 : Int) (a3 : Int) (r1 : Int) (r2 : Bool) (w : World) (h : impl_RollOn.f a0 a1 a2 a3 = some (r1, r2)) :
    Calls Try.prog 12 #[.int .i64 a0, .int .u8 a1, .int .u8 a2, .int .i64 a3] w fun e w' => e = .returned (.tuple #[.int .i64 r1, .bool r2]) ∧ Drawn0 w w' := by
  have H : ((impl_within.f (Int.tmod a0 256) 0 250).bind fun t102 => (if t102 = true then ((impl_within.f (wrap64 (Int.tdiv a0 256)) 0 250).bind fun t103 => (if t103 = true then (if a0 < 0 then (some (0, false)) else ((impl_within.f a3 1 120).bind fun t104 => (if t104 = true then ((impl_roll.f (Int.tmod (wrap64 ((wrap64 ((wrap64 ((Int.tmod a0 256) + 502)) - (wrap64 (a1)))) + (wrap64 (a2)))) 251) (Int.tmod (wrap64 ((wrap64 ((wrap64 (Int.tdiv a0 256)) + (wrap64 (a3 * (wrap64 (502 - (wrap64 (a1)))))))) + (Int.tmod (wrap64 ((wrap64 ((wrap64 ((Int.tmod a0 256) + 502)) - (wrap64 (a1)))) + (wrap64 (a2)))) 251))) 251)).bind fun t105 => (some (t105, true))) else (some (0, false))))) else (some (0, false)))) else (some (0, false)))) = some (r1, r2) := h
  clear h
  replace H := Option.bind_eq_some_iff.mp H
  obtain ⟨t102, A50, H⟩ := H
  replace H : (if t102 = true then ((impl_within.f (wrap64 (Int.tdiv a0 256)) 0 250).bind fun t103 => (if t103 = true then (if a0 < 0 then (some (0, false)) else ((impl_within.f a3 1 120).bind fun t104 => (if t104 = true then ((impl_roll.f (Int.tmod (wrap64 ((wrap64 ((wrap64 ((Int.tmod a0 256) + 502)) - (wrap64 (a1)))) + (wrap64 (a2)))) 251) (Int.tmod (wrap64 ((wrap64 ((wrap64 (Int.tdiv a0 256)) + (wrap64 (a3 * (wrap64 (502 - (wrap64 (a1)))))))) + (Int.tmod (wrap64 ((wrap64 ((wrap64 ((Int.tmod a0 256) + 502)) - (wrap64 (a1)))) + (wrap64 (a2)))) 251))) 251)).bind fun t105 => (some (t105, true))) else (some (0, false))))) else (some (0, false)))) else (some (0, false))) = some (r1, r2) := H
  have A5 := Aside0.mk A50
  clear A50
  by_cases c6 : t102 = true
  · subst c6
    have H1 : ((impl_within.f (wrap64 (Int.tdiv a0 256)) 0 250).bind fun t103 => (if t103 = true then (if a0 < 0 then (some (0, false)) else ((impl_within.f a3 1 120).bind fun t104 => (if t104 = true then ((impl_roll.f (Int.tmod (wrap64 ((wrap64 ((wrap64 ((Int.tmod a0 256) + 502)) - (wrap64 (a1)))) + (wrap64 (a2)))) 251) (Int.tmod (wrap64 ((wrap64 ((wrap64 (Int.tdiv a0 256)) + (wrap64 (a3 * (wrap64 (502 - (wrap64 (a1)))))))) + (Int.tmod (wrap64 ((wrap64 ((wrap64 ((Int.tmod a0 256) + 502)) - (wrap64 (a1)))) + (wrap64 (a2)))) 251))) 251)).bind fun t105 => (some (t105, true))) else (some (0, false))))) else (some (0, false)))) = some (r1, r2) := by rw [if_pos rfl] at H; exact H
    clear H
    have H := H1
    clear H1
    replace H := Option.bind_eq_some_iff.mp H
    obtain ⟨t103, A70, H⟩ := H
    replace H : (if t103 = true then (if a0 < 0 then (some (0, false)) else ((impl_within.f a3 1 120).bind fun t104 => (if t104 = true then ((impl_roll.f (Int.tmod (wrap64 ((wrap64 ((wrap64 ((Int.tmod a0 256) + 502)) - (wrap64 (a1)))) + (wrap64 (a2)))) 251) (Int.tmod (wrap64 ((wrap64 ((wrap64 (Int.tdiv a0 256)) + (wrap64 (a3 * (wrap64 (502 - (wrap64 (a1)))))))) + (Int.tmod (wrap64 ((wrap64 ((wrap64 ((Int.tmod a0 256) + 502)) - (wrap64 (a1)))) + (wrap64 (a2)))) 251))) 251)).bind fun t105 => (some (t105, true))) else (some (0, false))))) else (some (0, false))) = some (r1, r2) := H
    have A7 := Aside0.mk A70
    clear A70
    by_cases c8 : t103 = true
    · subst c8
      have H1 : (if a0 < 0 then (some (0, false)) else ((impl_within.f a3 1 120).bind fun t104 => (if t104 = true then ((impl_roll.f (Int.tmod (wrap64 ((wrap64 ((wrap64 ((Int.tmod a0 256) + 502)) - (wrap64 (a1)))) + (wrap64 (a2)))) 251) (Int.tmod (wrap64 ((wrap64 ((wrap64 (Int.tdiv a0 256)) + (wrap64 (a3 * (wrap64 (502 - (wrap64 (a1)))))))) + (Int.tmod (wrap64 ((wrap64 ((wrap64 ((Int.tmod a0 256) + 502)) - (wrap64 (a1)))) + (wrap64 (a2)))) 251))) 251)).bind fun t105 => (some (t105, true))) else (some (0, false))))) = some (r1, r2) := by rw [if_pos rfl] at H; exact H
      clear H
      have H := H1
      clear H1
      by_cases c9 : a0 < 0
      · rw [if_pos c9] at H
        have c9b0 : decide (a0 < 0) = true := decide_eq_true c9
        clear c9
        simp only [Option.some.injEq, Prod.mk.injEq] at H
        obtain ⟨rfl, rfl⟩ := H
        go_enter Try.func12, Try.ntmps12
        go_wp2_with (first | ((with_reducible refine gate_callee (f := 38) rfl ?_); refine goesL_ (some 17) rfl rfl Try.func38 (by kernel_rfl) rfl #[.int .i64 (Int.tmod a0 256), .int .i64 0, .int .i64 250] rfl (by (try simp only [List.map_toArray, List.map_cons, List.map_nil]); first | done | rfl | (simp only [List.length_drop, List.length_take]; rfl)) ?_; (with_reducible refine (impl_within.calls (Int.tmod a0 256) 0 250 true _ A5.out).mono ?_); rintro e w' ⟨rfl, ⟨nd, rfl⟩⟩; refine ⟨_, rfl, ?_⟩) | (go_at_call 38; (with_reducible refine (impl_within.calls (wrap64 (Int.tdiv a0 256)) 0 250 true _ A7.out).mono ?_); rintro e w' ⟨rfl, ⟨nd, rfl⟩⟩))
        go_ret2
        exact ⟨by first | rfl | (simp; done) | (simp [*]; done), by repeat (first | exact Drawn0.refl _ | apply Drawn0.step)⟩
      · rw [if_neg c9] at H
        have c9b0 : decide (a0 < 0) = false := decide_eq_false c9
        clear c9
        replace H := Option.bind_eq_some_iff.mp H
        obtain ⟨t104, A100, H⟩ := H
        replace H : (if t104 = true then ((impl_roll.f (Int.tmod (wrap64 ((wrap64 ((wrap64 ((Int.tmod a0 256) + 502)) - (wrap64 (a1)))) + (wrap64 (a2)))) 251) (Int.tmod (wrap64 ((wrap64 ((wrap64 (Int.tdiv a0 256)) + (wrap64 (a3 * (wrap64 (502 - (wrap64 (a1)))))))) + (Int.tmod (wrap64 ((wrap64 ((wrap64 ((Int.tmod a0 256) + 502)) - (wrap64 (a1)))) + (wrap64 (a2)))) 251))) 251)).bind fun t105 => (some (t105, true))) else (some (0, false))) = some (r1, r2) := H
        have A10 := Aside0.mk A100
        clear A100
        by_cases c11 : t104 = true
        · subst c11
          have H1 : ((impl_roll.f (Int.tmod (wrap64 ((wrap64 ((wrap64 ((Int.tmod a0 256) + 502)) - (wrap64 (a1)))) + (wrap64 (a2)))) 251) (Int.tmod (wrap64 ((wrap64 ((wrap64 (Int.tdiv a0 256)) + (wrap64 (a3 * (wrap64 (502 - (wrap64 (a1)))))))) + (Int.tmod (wrap64 ((wrap64 ((wrap64 ((Int.tmod a0 256) + 502)) - (wrap64 (a1)))) + (wrap64 (a2)))) 251))) 251)).bind fun t105 => (some (t105, true))) = some (r1, r2) := by rw [if_pos rfl] at H; exact H
          clear H
          have H := H1
          clear H1
          replace H := Option.bind_eq_some_iff.mp H
          obtain ⟨t105, A120, H⟩ := H
          replace H : (some (t105, true)) = some (r1, r2) := H
          have A12 := Aside0.mk A120
          clear A120
          simp only [Option.some.injEq, Prod.mk.injEq] at H
          obtain ⟨rfl, rfl⟩ := H
          go_enter Try.func12, Try.ntmps12
          go_wp2_with (first | ((with_reducible refine gate_callee (f := 38) rfl ?_); refine goesL_ (some 17) rfl rfl Try.func38 (by kernel_rfl) rfl #[.int .i64 (Int.tmod a0 256), .int .i64 0, .int .i64 250] rfl (by (try simp only [List.map_toArray, List.map_cons, List.map_nil]); first | done | rfl | (simp only [List.length_drop, List.length_take]; rfl)) ?_; (with_reducible refine (impl_within.calls (Int.tmod a0 256) 0 250 true _ A5.out).mono ?_); rintro e w' ⟨rfl, ⟨nd, rfl⟩⟩; refine ⟨_, rfl, ?_⟩) | (go_at_call 38; (with_reducible refine (impl_within.calls (wrap64 (Int.tdiv a0 256)) 0 250 true _ A7.out).mono ?_); rintro e w' ⟨rfl, ⟨nd, rfl⟩⟩) | (go_at_call 38; (with_reducible refine (impl_within.calls a3 1 120 true _ A10.out).mono ?_); rintro e w' ⟨rfl, ⟨nd, rfl⟩⟩) | ((with_reducible refine gate_callee (f := 39) rfl ?_); refine goesL_ (some 54) rfl rfl Try.func39 (by kernel_rfl) rfl #[.int .i64 (Int.tmod (wrap64 ((wrap64 ((wrap64 ((Int.tmod a0 256) + 502)) - (wrap64 (a1)))) + (wrap64 (a2)))) 251), .int .i64 (Int.tmod (wrap64 ((wrap64 ((wrap64 (Int.tdiv a0 256)) + (wrap64 (a3 * (wrap64 (502 - (wrap64 (a1)))))))) + (Int.tmod (wrap64 ((wrap64 ((wrap64 ((Int.tmod a0 256) + 502)) - (wrap64 (a1)))) + (wrap64 (a2)))) 251))) 251)] rfl (by (try simp only [List.map_toArray, List.map_cons, List.map_nil]); first | done | rfl | (simp only [List.length_drop, List.length_take]; rfl)) ?_; (with_reducible refine (impl_roll.calls (Int.tmod (wrap64 ((wrap64 ((wrap64 ((Int.tmod a0 256) + 502)) - (wrap64 (a1)))) + (wrap64 (a2)))) 251) (Int.tmod (wrap64 ((wrap64 ((wrap64 (Int.tdiv a0 256)) + (wrap64 (a3 * (wrap64 (502 - (wrap64 (a1)))))))) + (Int.tmod (wrap64 ((wrap64 ((wrap64 ((Int.tmod a0 256) + 502)) - (wrap64 (a1)))) + (wrap64 (a2)))) 251))) 251) t105 _ A12.out).mono ?_); rintro e w' ⟨rfl, ⟨nd, rfl⟩⟩; refine ⟨_, rfl, ?_⟩))
          go_ret2
          exact ⟨by first | rfl | (simp; done) | (simp [*]; done), by repeat (first | exact Drawn0.refl _ | apply Drawn0.step)⟩
        · replace c11 := Bool.eq_false_iff.mpr c11
          subst c11
          have H1 : (some (0, false)) = some (r1, r2) := by rw [if_neg (show ¬ (false = true) by decide)] at H; exact H
          clear H
          have H := H1
          clear H1
          simp only [Option.some.injEq, Prod.mk.injEq] at H
          obtain ⟨rfl, rfl⟩ := H
          go_enter Try.func12, Try.ntmps12
          go_wp2_with (first | ((with_reducible refine gate_callee (f := 38) rfl ?_); refine goesL_ (some 17) rfl rfl Try.func38 (by kernel_rfl) rfl #[.int .i64 (Int.tmod a0 256), .int .i64 0, .int .i64 250] rfl (by (try simp only [List.map_toArray, List.map_cons, List.map_nil]); first | done | rfl | (simp only [List.length_drop, List.length_take]; rfl)) ?_; (with_reducible refine (impl_within.calls (Int.tmod a0 256) 0 250 true _ A5.out).mono ?_); rintro e w' ⟨rfl, ⟨nd, rfl⟩⟩; refine ⟨_, rfl, ?_⟩) | (go_at_call 38; (with_reducible refine (impl_within.calls (wrap64 (Int.tdiv a0 256)) 0 250 true _ A7.out).mono ?_); rintro e w' ⟨rfl, ⟨nd, rfl⟩⟩) | (go_at_call 38; (with_reducible refine (impl_within.calls a3 1 120 false _ A10.out).mono ?_); rintro e w' ⟨rfl, ⟨nd, rfl⟩⟩))
          go_ret2
          exact ⟨by first | rfl | (simp; done) | (simp [*]; done), by repeat (first | exact Drawn0.refl _ | apply Drawn0.step)⟩
    · replace c8 := Bool.eq_false_iff.mpr c8
      subst c8
      have H1 : (some (0, false)) = some (r1, r2) := by rw [if_neg (show ¬ (false = true) by decide)] at H; exact H
      clear H
      have H := H1
      clear H1
      simp only [Option.some.injEq, Prod.mk.injEq] at H
      obtain ⟨rfl, rfl⟩ := H
      go_enter Try.func12, Try.ntmps12
      go_wp2_with (first | ((with_reducible refine gate_callee (f := 38) rfl ?_); refine goesL_ (some 17) rfl rfl Try.func38 (by kernel_rfl) rfl #[.int .i64 (Int.tmod a0 256), .int .i64 0, .int .i64 250] rfl (by (try simp only [List.map_toArray, List.map_cons, List.map_nil]); first | done | rfl | (simp only [List.length_drop, List.length_take]; rfl)) ?_; (with_reducible refine (impl_within.calls (Int.tmod a0 256) 0 250 true _ A5.out).mono ?_); rintro e w' ⟨rfl, ⟨nd, rfl⟩⟩; refine ⟨_, rfl, ?_⟩) | (go_at_call 38; (with_reducible refine (impl_within.calls (wrap64 (Int.tdiv a0 256)) 0 250 false _ A7.out).mono ?_); rintro e w' ⟨rfl, ⟨nd, rfl⟩⟩))
      go_ret2
      exact ⟨by first | rfl | (simp; done) | (simp [*]; done), by repeat (first | exact Drawn0.refl _ | apply Drawn0.step)⟩
  · replace c6 := Bool.eq_false_iff.mpr c6
    subst c6
    have H1 : (some (0, false)) = some (r1, r2) := by rw [if_neg (show ¬ (false = true) by decide)] at H; exact H
    clear H
    have H := H1
    clear H1
    simp only [Option.some.injEq, Prod.mk.injEq] at H
    obtain ⟨rfl, rfl⟩ := H
    go_enter Try.func12, Try.ntmps12
    go_wp2_with (first | ((with_reducible refine gate_callee (f := 38) rfl ?_); refine goesL_ (some 17) rfl rfl Try.func38 (by kernel_rfl) rfl #[.int .i64 (Int.tmod a0 256), .int .i64 0, .int .i64 250] rfl (by (try simp only [List.map_toArray, List.map_cons, List.map_nil]); first | done | rfl | (simp only [List.length_drop, List.length_take]; rfl)) ?_; (with_reducible refine (impl_within.calls (Int.tmod a0 256) 0 250 false _ A5.out).mono ?_); rintro e w' ⟨rfl, ⟨nd, rfl⟩⟩; refine ⟨_, rfl, ?_⟩))
    go_ret2
    exact ⟨by first | rfl | (simp; done) | (simp [*]; done), by repeat (first | exact Drawn0.refl _ | apply Drawn0.step)⟩

/-! ### laws_FnExactRollOn: function 3 -/
def laws_FnExactRollOn.f (a0 : Int) (a1 : Int) (a2 : Int) (a3 : Int) : Option (Bool) := (spec_RollOn.f a0 a1 a2 a3).bind fun bt106 => ((impl_RollOn.f a0 a1 a2 a3).bind fun bt108 => (if bt108.1 = bt106.1 then (if (bt108.2 != bt106.2) = true then (some false) else (some true)) else (some false)))
set_option maxHeartbeats 8000000 in
set_option maxRecDepth 100000 in
theorem laws_FnExactRollOn.calls (a0 : Int) (a1 : Int) (a2 : Int) (a3 : Int) (r : Bool) (w : World) (h : laws_FnExactRollOn.f a0 a1 a2 a3 = some r) :
    Calls Try.prog 3 #[.int .i64 a0, .int .u8 a1, .int .u8 a2, .int .i64 a3] w fun e w' => e = .returned (.bool r) ∧ Drawn0 w w' := by
  have H : ((spec_RollOn.f a0 a1 a2 a3).bind fun bt106 => ((impl_RollOn.f a0 a1 a2 a3).bind fun bt108 => (if bt108.1 = bt106.1 then (if (bt108.2 != bt106.2) = true then (some false) else (some true)) else (some false)))) = some r := h
  clear h
  replace H := Option.bind_eq_some_iff.mp H
  obtain ⟨⟨t106, t107⟩, A50, H⟩ := H
  replace H : ((impl_RollOn.f a0 a1 a2 a3).bind fun bt108 => (if bt108.1 = t106 then (if (bt108.2 != t107) = true then (some false) else (some true)) else (some false))) = some r := H
  have A5 := Aside0.mk A50
  clear A50
  replace H := Option.bind_eq_some_iff.mp H
  obtain ⟨⟨t108, t109⟩, A60, H⟩ := H
  replace H : (if t108 = t106 then (if (t109 != t107) = true then (some false) else (some true)) else (some false)) = some r := H
  have A6 := Aside0.mk A60
  clear A60
  by_cases c7 : t108 = t106
  · rw [if_pos c7] at H
    have c7b0 : (t108 == t106) = true := beq_iff_eq.mpr c7
    have c7b1 : (t108 != t106) = false := bne_eq_false_iff_eq.mpr c7
    clear c7
    by_cases c8 : (t109 != t107) = true
    · rw [if_pos c8] at H
      have c8b0 : (t109 != t107) = true := c8
      (try (have c8b1 : decide (t109 = t107) = false := by simpa using c8))
      (try (have c8b2 : (t109 == t107) = false := by simpa using c8))
      (try (have c8b3 : ¬ (t109 = t107) := by simpa using c8))
      clear c8
      obtain rfl := Option.some.inj H
      go_enter Try.func3, Try.ntmps3
      go_wp2_with (first | ((with_reducible refine gate_callee (f := 11) rfl ?_); refine goesL_ (some 18) rfl rfl Try.func11 (by kernel_rfl) rfl #[.int .i64 a0, .int .u8 a1, .int .u8 a2, .int .i64 a3] rfl (by (try simp only [List.map_toArray, List.map_cons, List.map_nil]); first | done | rfl | (simp only [List.length_drop, List.length_take]; rfl)) ?_; (with_reducible refine (spec_RollOn.calls a0 a1 a2 a3 t106 t107 _ A5.out).mono ?_); rintro e w' ⟨rfl, ⟨nd, rfl⟩⟩; refine ⟨_, rfl, ?_⟩) | ((with_reducible refine gate_callee (f := 12) rfl ?_); refine goesL_ (some 26) rfl rfl Try.func12 (by kernel_rfl) rfl #[.int .i64 a0, .int .u8 a1, .int .u8 a2, .int .i64 a3] rfl (by (try simp only [List.map_toArray, List.map_cons, List.map_nil]); first | done | rfl | (simp only [List.length_drop, List.length_take]; rfl)) ?_; (with_reducible refine (impl_RollOn.calls a0 a1 a2 a3 t108 t109 _ A6.out).mono ?_); rintro e w' ⟨rfl, ⟨nd, rfl⟩⟩; refine ⟨_, rfl, ?_⟩))
      go_ret
      exact ⟨by first | rfl | (simp; done) | (simp [*]; done), by repeat (first | exact Drawn0.refl _ | apply Drawn0.step)⟩
    · rw [if_neg c8] at H
      have c8b0 : (t109 != t107) = false := by simpa using c8
      (try (have c8b1 : decide (t109 = t107) = true := by simpa using c8))
      (try (have c8b2 : (t109 == t107) = true := by simpa using c8))
      clear c8
      obtain rfl := Option.some.inj H
      go_enter Try.func3, Try.ntmps3
      go_wp2_with (first | ((with_reducible refine gate_callee (f := 11) rfl ?_); refine goesL_ (some 18) rfl rfl Try.func11 (by kernel_rfl) rfl #[.int .i64 a0, .int .u8 a1, .int .u8 a2, .int .i64 a3] rfl (by (try simp only [List.map_toArray, List.map_cons, List.map_nil]); first | done | rfl | (simp only [List.length_drop, List.length_take]; rfl)) ?_; (with_reducible refine (spec_RollOn.calls a0 a1 a2 a3 t106 t107 _ A5.out).mono ?_); rintro e w' ⟨rfl, ⟨nd, rfl⟩⟩; refine ⟨_, rfl, ?_⟩) | ((with_reducible refine gate_callee (f := 12) rfl ?_); refine goesL_ (some 26) rfl rfl Try.func12 (by kernel_rfl) rfl #[.int .i64 a0, .int .u8 a1, .int .u8 a2, .int .i64 a3] rfl (by (try simp only [List.map_toArray, List.map_cons, List.map_nil]); first | done | rfl | (simp only [List.length_drop, List.length_take]; rfl)) ?_; (with_reducible refine (impl_RollOn.calls a0 a1 a2 a3 t108 t109 _ A6.out).mono ?_); rintro e w' ⟨rfl, ⟨nd, rfl⟩⟩; refine ⟨_, rfl, ?_⟩))
      go_ret
      exact ⟨by first | rfl | (simp; done) | (simp [*]; done), by repeat (first | exact Drawn0.refl _ | apply Drawn0.step)⟩
  · rw [if_neg c7] at H
    have c7b0 : (t108 == t106) = false := beq_eq_false_iff_ne.mpr c7
    have c7b1 : (t108 != t106) = true := bne_iff_ne.mpr c7
    obtain rfl := Option.some.inj H
    go_enter Try.func3, Try.ntmps3
    go_wp2_with (first | ((with_reducible refine gate_callee (f := 11) rfl ?_); refine goesL_ (some 18) rfl rfl Try.func11 (by kernel_rfl) rfl #[.int .i64 a0, .int .u8 a1, .int .u8 a2, .int .i64 a3] rfl (by (try simp only [List.map_toArray, List.map_cons, List.map_nil]); first | done | rfl | (simp only [List.length_drop, List.length_take]; rfl)) ?_; (with_reducible refine (spec_RollOn.calls a0 a1 a2 a3 t106 t107 _ A5.out).mono ?_); rintro e w' ⟨rfl, ⟨nd, rfl⟩⟩; refine ⟨_, rfl, ?_⟩) | ((with_reducible refine gate_callee (f := 12) rfl ?_); refine goesL_ (some 26) rfl rfl Try.func12 (by kernel_rfl) rfl #[.int .i64 a0, .int .u8 a1, .int .u8 a2, .int .i64 a3] rfl (by (try simp only [List.map_toArray, List.map_cons, List.map_nil]); first | done | rfl | (simp only [List.length_drop, List.length_take]; rfl)) ?_; (with_reducible refine (impl_RollOn.calls a0 a1 a2 a3 t108 t109 _ A6.out).mono ?_); rintro e w' ⟨rfl, ⟨nd, rfl⟩⟩; refine ⟨_, rfl, ?_⟩))
    go_ret
    exact ⟨by first | rfl | (simp; done) | (simp [*]; done), by repeat (first | exact Drawn0.refl _ | apply Drawn0.step)⟩

/-- THE ONE PURE STATEMENT of laws_FnExactRollOn: yours. -/
def laws_FnExactRollOn.Pure : Prop := ∀ (a0 : Int) (a1 : Int) (a2 : Int) (a3 : Int), (Lit.int .i64 a0).wf = true → (Lit.int .u8 a1).wf = true → (Lit.int .u8 a2).wf = true → (Lit.int .i64 a3).wf = true → laws_FnExactRollOn.f a0 a1 a2 a3 = some true
theorem laws_FnExactRollOn.walk (P : laws_FnExactRollOn.Pure) (a0 : Int) (a1 : Int) (a2 : Int) (a3 : Int) (w : World) (w0 : (Lit.int .i64 a0).wf = true) (w1 : (Lit.int .u8 a1).wf = true) (w2 : (Lit.int .u8 a2).wf = true) (w3 : (Lit.int .i64 a3).wf = true) :
    Calls Try.prog 3 #[.int .i64 a0, .int .u8 a1, .int .u8 a2, .int .i64 a3] w fun e w' => e = .returned (.bool true) ∧ Below w.heap.size w w' := by
  have h := P a0 a1 a2 a3 w0 w1 w2 w3
  refine (laws_FnExactRollOn.calls a0 a1 a2 a3 true w h).mono ?_
  rintro e w' ⟨rfl, hd⟩
  exact ⟨rfl, hd.below⟩

end Go.Proofs.Ytlfgkodipeofiaa.PFnExactRollOn

-- Written by a program of this session (wip/xprint.py over the kit's printer), out of the translation; the texts of functions that the printer does not take are this session's own.
import Derived.Test.YtlfgkodipeofiaaPFx0
import Derived.Test.YtlfgkodipeofiaaPFx4
namespace Go.Proofs.Ytlfgkodipeofiaa.PF
open Go.RowKit Go.Proofs.YtlfgkodipeofiaaW.PrintWords Go.Proofs.YtlfgkodipeofiaaW.PrintLast Go.Proofs.YtlfgkodipeofiaaW.PrintMore
attribute [local go_sem] max2_int min2_int max_two min_two max_three min_three max_four min_four   -- for this text's walks alone
set_option linter.unusedVariables false
set_option linter.unusedSimpArgs false

/-! ### impl_block: function 67 -/
def impl_block.l0 : Nat → ByteArray → ByteArray → Int → Option (Int × Bool)
  | 0, _, _, _ => none
  | k + 1, x0, x1, x6 => if (wrap64 (x6 + 4)) ≤ (x0.size : Int) then (if 0 ≤ x6 then (if x6 ≤ (wrap64 (x6 + 4)) then (if 0 ≤ 4 then (if 4 ≤ (x1.size : Int) then (if (x0.extract (x6 : Int).toNat ((wrap64 (x6 + 4)) : Int).toNat).toList = (x1.extract 0 4).toList then (some (x6, true)) else (impl_block.l0 k x0 x1 (wrap64 (x6 + 4)))) else (none)) else (none)) else (none)) else (none)) else (some (0, false))
def impl_block.f (k : Nat) (a0 : ByteArray) (a1 : ByteArray) : Option (Int × Bool) := if (a1.size : Int) < 4 then (some (0, false)) else (impl_block.l0 k a0 a1 0)
theorem impl_block.mono_l : ∀ k, (∀ y0 y1 y2, LeO (impl_block.l0 k y0 y1 y2) (impl_block.l0 (k + 1) y0 y1 y2))
  | 0 => fun _ _ _ r h => by simp [impl_block.l0] at h
  | k + 1 => by
    have ih0 := impl_block.mono_l k
    · intro y0 y1 y2
      unfold impl_block.l0
      repeat' first
      | (with_reducible exact ih0 _ _ _)
      | (with_reducible exact LeO.refl _)
      | (with_reducible exact LeO.none _)
      | (with_reducible refine LeO.ite ?_ ?_)
      | (with_reducible refine LeO.bind ?_ (fun _ => ?_))
      | exact ih0 _ _ _
      | exact LeO.none _
      | refine LeO.ite ?_ ?_
      | refine LeO.bind ?_ (fun _ => ?_)
theorem impl_block.mono : ∀ a0 a1 k, LeO (impl_block.f k a0 a1) (impl_block.f (k + 1) a0 a1) := by
  intro a0 a1 k
  have ih0 := impl_block.mono_l k
  unfold impl_block.f
  repeat' first
      | (with_reducible exact ih0 _ _ _)
      | (with_reducible exact LeO.refl _)
      | (with_reducible exact LeO.none _)
      | (with_reducible refine LeO.ite ?_ ?_)
      | (with_reducible refine LeO.bind ?_ (fun _ => ?_))
      | exact ih0 _ _ _
      | exact LeO.none _
      | refine LeO.ite ?_ ?_
      | refine LeO.bind ?_ (fun _ => ?_)
set_option maxHeartbeats 8000000 in
set_option maxRecDepth 100000 in
theorem impl_block.calls (k : Nat) (a0 : ByteArray) (a1 : ByteArray) (r1 : Int) (r2 : Bool) (w : World) (h : impl_block.f k a0 a1 = some (r1, r2)) :
    Calls Try.prog 67 #[.string a0, .string a1] w fun e w' => e = .returned (.tuple #[.int .i64 r1, .bool r2]) ∧ Drawn0 w w' := by
  have H : (if (a1.size : Int) < 4 then (some (0, false)) else (impl_block.l0 k a0 a1 0)) = some (r1, r2) := h
  clear h
  by_cases c3 : (a1.size : Int) < 4
  · rw [if_pos c3] at H
    have c3b0 : decide ((a1.size : Int) < 4) = true := decide_eq_true c3
    have c3b1 : decide (a1.size < 4) = true := decide_eq_true (by omega)
    clear c3
    simp only [Option.some.injEq, Prod.mk.injEq] at H
    obtain ⟨rfl, rfl⟩ := H
    go_enter Try.func67, Try.ntmps67
    go_wp2
    repeat (go_quiet (fail); try go_wp2)
    go_ret2
    exact ⟨by first | rfl | (simp; done) | (simp [*]; done), by repeat (first | exact Drawn0.refl _ | apply Drawn0.step)⟩
  · rw [if_neg c3] at H
    have c3b0 : decide ((a1.size : Int) < 4) = false := decide_eq_false c3
    have c3b1 : decide (a1.size < 4) = false := decide_eq_false (by omega)
    clear c3
    have H' := Aside0.mk H
    clear H
    go_enter Try.func67, Try.ntmps67
    go_wp2
    repeat (go_quiet (fail); try go_wp2)
    go_loopg [6] k (fun kq v6 w' => ∃ (x6_1 : Int), v6 = .int .i64 x6_1 ∧ Aside0 (impl_block.l0 kq a0 a1 x6_1 = some (r1, r2)) ∧ Aside0 (kq ≤ k) ∧ Drawn0 w w')
    case atStart => exact ⟨(0), (by first | rfl | (simp; done) | (simp [*]; done)), H', ⟨Nat.le_refl _⟩, by repeat (first | exact Drawn0.refl _ | apply Drawn0.step)⟩
    case round =>
      clear H'
      try clear p2
      try clear c3
      try clear c3b0
      try clear c3b1
      obtain ⟨x6_1, rfl, HA, HK1, ⟨m1, rfl⟩⟩ := hrel
      cases gk with
      | zero => exact absurd HA.out (by simp [impl_block.l0])
      | succ k1 =>
        have H := HA.out
        clear HA
        simp only [impl_block.l0] at H
        by_cases c4 : (wrap64 (x6_1 + 4)) ≤ (a0.size : Int)
        · rw [if_pos c4] at H
          have c4b0 : decide ((wrap64 (x6_1 + 4)) ≤ (a0.size : Int)) = true := decide_eq_true c4
          clear c4
          by_cases c5 : 0 ≤ x6_1
          · rw [if_pos c5] at H
            have c5b0 := eq_true c5
            have c5b1 : decide (0 ≤ x6_1) = true := decide_eq_true c5
            clear c5
            by_cases c6 : x6_1 ≤ (wrap64 (x6_1 + 4))
            · rw [if_pos c6] at H
              have c6b0 := eq_true c6
              have c6b1 : decide (x6_1 ≤ (wrap64 (x6_1 + 4))) = true := decide_eq_true c6
              have c7b0 := eq_true (of_decide_eq_true (by first | (with_reducible assumption) | assumption) : (wrap64 (x6_1 + 4)) ≤ (a0.size : Int))
              by_cases c8 : 0 ≤ 4
              · rw [if_pos c8] at H
                have c8b0 := eq_true c8
                have c8b1 : decide (0 ≤ 4) = true := decide_eq_true c8
                clear c8
                by_cases c9 : 4 ≤ (a1.size : Int)
                · rw [if_pos c9] at H
                  have c9b0 := eq_true c9
                  have c9b1 : decide (4 ≤ (a1.size : Int)) = true := decide_eq_true c9
                  clear c9
                  by_cases c10 : (a0.extract (x6_1 : Int).toNat ((wrap64 (x6_1 + 4)) : Int).toNat).toList = (a1.extract 0 4).toList
                  · rw [if_pos c10] at H
                    have c10b0 : ((a0.extract (x6_1 : Int).toNat ((wrap64 (x6_1 + 4)) : Int).toNat).toList == (a1.extract 0 4).toList) = true := beq_iff_eq.mpr c10
                    have c10b1 : ((a0.extract (x6_1 : Int).toNat ((wrap64 (x6_1 + 4)) : Int).toNat).toList != (a1.extract 0 4).toList) = false := bne_eq_false_iff_eq.mpr c10
                    clear c10
                    simp only [Option.some.injEq, Prod.mk.injEq] at H
                    obtain ⟨rfl, rfl⟩ := H
                    go_wp2
                    repeat (go_quiet (fail); try go_wp2)
                    go_ret2
                    exact ⟨by first | rfl | (simp; done) | (simp [*]; done), by repeat (first | exact Drawn0.refl _ | apply Drawn0.step)⟩
                  · rw [if_neg c10] at H
                    have c10b0 : ((a0.extract (x6_1 : Int).toNat ((wrap64 (x6_1 + 4)) : Int).toNat).toList == (a1.extract 0 4).toList) = false := beq_eq_false_iff_ne.mpr c10
                    have c10b1 : ((a0.extract (x6_1 : Int).toNat ((wrap64 (x6_1 + 4)) : Int).toNat).toList != (a1.extract 0 4).toList) = true := bne_iff_ne.mpr c10
                    have H' := Aside0.mk H
                    clear H
                    go_wp2
                    repeat (go_quiet (fail); try go_wp2)
                    go_roundg k1
                    case measure => have := HK1.out; omega
                    case rel => exact ⟨(wrap64 (x6_1 + 4)), (by first | rfl | (simp; done) | (simp [*]; done)), H', ⟨by have := HK1.out; omega⟩, by repeat (first | exact Drawn0.refl _ | apply Drawn0.step)⟩
                · rw [if_neg c9] at H
                  exact absurd H (by simp)
              · rw [if_neg c8] at H
                exact absurd H (by simp)
            · rw [if_neg c6] at H
              exact absurd H (by simp)
          · rw [if_neg c5] at H
            exact absurd H (by simp)
        · rw [if_neg c4] at H
          have c4b0 : decide ((wrap64 (x6_1 + 4)) ≤ (a0.size : Int)) = false := decide_eq_false c4
          clear c4
          simp only [Option.some.injEq, Prod.mk.injEq] at H
          obtain ⟨rfl, rfl⟩ := H
          go_wp2
          repeat (go_quiet (fail); try go_wp2)
          go_ret2
          exact ⟨by first | rfl | (simp; done) | (simp [*]; done), by repeat (first | exact Drawn0.refl _ | apply Drawn0.step)⟩

/-! ### deltaEnd: our own -/
/-- what the closure 'end' leaves: the words are one part more, if there are any -/
def deltaOut (out : List (S59)) (t : ByteArray) : List (S59) := if t.toList = ([] : List UInt8) then out else out ++ [(⟨0, 0, t⟩ : S59)]
set_option maxHeartbeats 800000 in
set_option maxRecDepth 100000 in
theorem deltaEnd_calls (B0 B1 : Nat) (v : Value) (out : List (S59)) (t : ByteArray) (w0 w : World) (hB : Below w0.heap.size w0 w) (hb0 : w0.heap.size ≤ B0) (hb1 : w0.heap.size ≤ B1) (hne : B0 ≠ B1)
    (h0 : w.heap[B0]? = some (.cells #[v] 35 (0, 0))) (h1 : w.heap[B1]? = some (.cells #[.string t] 9 (0, 0))) (ho : Kd.R k59 59 w w0.heap.size (fun k => k ≠ B0 ∧ k ≠ B1) v out) (hlen : out.length < 4398046511104) :
    Calls Try.prog 66 #[.pointer (some ⟨B1, 0, none⟩), .pointer (some ⟨B0, 0, none⟩)] w fun e w' => e = .returned (.tuple #[]) ∧ ∃ v' : Value, w'.heap[B0]? = some (.cells #[v'] 35 (0, 0)) ∧ w'.heap[B1]? = some (.cells #[.string ⟨#[]⟩] 9 (0, 0)) ∧ Kd.R k59 59 w' w0.heap.size (fun k => k ≠ B0 ∧ k ≠ B1) v' (deltaOut out t) ∧ Below w0.heap.size w0 w' := by
  have hx1 : w.cell? ⟨B1, 0, none⟩ = some (.string t) := (blk_cell h1 0).trans rfl
  have hf1 : w.frozen? ⟨B1, 0, none⟩ = false := blk_frozen h1 0
  have hx0 : w.cell? ⟨B0, 0, none⟩ = some v := (blk_cell h0 0).trans rfl
  have hf0 : w.frozen? ⟨B0, 0, none⟩ = false := blk_frozen h0 0
  have HB := Aside0.mk hB
  have HO := Aside0.mk ho
  have H0 := Aside0.mk h0
  have H1 := Aside0.mk h1
  have hu59 := Try.underlying59
  have HL := Aside0.mk hlen
  clear hB ho h0 h1 hlen
  by_cases c : t.toList = ([] : List UInt8)
  · have e1 : t.toList.isEmpty = true := by simpa using c
    have e2 : (!t.toList.isEmpty) = false := by simpa using c
    have e3 : (t.toList == ([] : List UInt8)) = true := beq_iff_eq.mpr c
    have e4 : (t.toList != ([] : List UInt8)) = false := bne_eq_false_iff_eq.mpr c
    have hd : deltaOut out t = out := if_pos c
    rw [hd]
    clear c hd
    go_enter Try.func66, Try.ntmps66
    go_wp2
    go_end0
    exact ⟨rfl, v, blk_far H0.out hne _, (blk_set H1.out 0 _).trans rfl, Kd.R_far HO.out (p := ⟨B1, 0, none⟩) (fun k hk => hk.2) _, below_set HB.out hb1⟩
  · have e1 : t.toList.isEmpty = false := by simpa using c
    have e2 : (!t.toList.isEmpty) = true := by simpa using c
    have e3 : (t.toList == ([] : List UInt8)) = false := beq_eq_false_iff_ne.mpr c
    have e4 : (t.toList != ([] : List UInt8)) = true := bne_iff_ne.mpr c
    have hd : deltaOut out t = out ++ [(⟨0, 0, t⟩ : S59)] := if_neg c
    rw [hd]
    clear c hd
    obtain ⟨y, hy⟩ : ∃ y : List (S59), y = out ++ [(⟨0, 0, t⟩ : S59)] := ⟨_, rfl⟩
    rw [← hy]
    have HY := Aside0.mk hy
    clear hy
    go_enter Try.func66, Try.ntmps66
    go_wp2_with (first | ((with_reducible refine gate_builtin (b := .append) (xs := #[.tmp 4, .tmp 7]) rfl ?_); (try (refine gate_guard (by rfl) ?_; dsimp only)); at_builtin; refine Kd.R_append k59 (w0 := w0) w0.heap.size rfl (.tmp 4) (.tmp 7) 35 59 (.agg #[(.int .i64 0), (.int .i64 0), (.string ⟨#[]⟩)]) 32 rfl Try.underlying35 info59 rfl (by decide) (by omega) v out (⟨0, 0, t⟩ : S59) [.int .i64 0, .int .i64 0, .string t] (fun k => k ≠ B0 ∧ k ≠ B1) (fun _ => False) rfl rfl ?aP (fun _ hk => hk.elim) ?aF ?aO ?aB ?aS ?aL ?_; (case aP => exact k59_mkM _ _ _ (⟨0, 0, t⟩ : S59)); (case aB => exact (by repeat (first | (with_reducible first | exact HB.out | apply below_alloc | apply pw_below_drewN | apply below_drew1) | exact HB.out))); (case aF => exact (fun k hk => by have g0 := blk_lt H0.out; have g1 := blk_lt H1.out; have hk' : w.heap.size ≤ k := (by first | exact hk | (simp at hk; omega)); exact ⟨by omega, by omega⟩)); (case aO => exact (by (with_reducible repeat (first | apply Kd.R_alloc | apply Kd.R_drewN | apply Kd.R_drew)); exact HO.out)); (case aS => exact (below_size (by repeat (first | (with_reducible first | exact HB.out | apply below_alloc | apply pw_below_drewN | apply below_drew1) | exact HB.out)))); (case aL => have := HL.out; omega); intro v111 w18 ho hb hg hat; rw [← HY.out] at ho; obtain ⟨Av, cv, rfl⟩ := Kd.R_slice ho; have n0_ := Aside0.mk (hb); have n1_ := Aside0.mk (ho); clear HB; have HB := n0_; have HO2 := n1_; clear n0_ n1_; have n2_ := Aside0.mk (blk_grown H0.out hg (Kd.R_away HO.out (fun k hk => hk.1))); have n3_ := Aside0.mk (blk_grown H1.out hg (Kd.R_away HO.out (fun k hk => hk.2))); clear HO H0 H1; have H0 := n2_; have H1 := n3_; clear n2_ n3_; clear ho hb hg hat hx0 hx1 hf0 hf1; have hx0 : w18.cell? ⟨B0, 0, none⟩ = some v := (blk_cell H0.out 0).trans rfl; have hf0 : w18.frozen? ⟨B0, 0, none⟩ = false := blk_frozen H0.out 0; have hf1 : w18.frozen? ⟨B1, 0, none⟩ = false := blk_frozen H1.out 0; have hx1 : w18.cell? ⟨B1, 0, none⟩ = some (.string t) := (blk_cell H1.out 0).trans rfl))
    go_end0
    exact ⟨rfl, _, blk_far ((blk_set H0.out 0 _).trans rfl) hne _, (blk_set (blk_far H1.out (p := ⟨B0, 0, none⟩) hne.symm _) 0 _).trans rfl, Kd.R_far (Kd.R_far HO2.out (p := ⟨B0, 0, none⟩) (fun k hk => hk.1) _) (p := ⟨B1, 0, none⟩) (fun k hk => hk.2) _, below_set (below_set HB.out hb0) hb1⟩

/-! ### impl_delta: function 57 (our own text) -/
mutual
def impl_delta.l0 : Nat → ByteArray → ByteArray → List (S59) → ByteArray → Option (List (S59))
  | 0, _, _, _, _ => none
  | k + 1, x0, x1, x5, x6 => if x1.toList = ([] : List UInt8) then (if x5.length < 4398046511104 then some (deltaOut x5 x6) else none) else (impl_block.f k x0 x1).bind fun p => (if p.2 = true then (if x5.length < 4398046511104 then impl_delta.l1 k x0 x1 (deltaOut x5 x6) p.1 4 else none) else (if 1 ≤ (x1.size : Int) then (if x6.size + (x1.extract 0 1).size ≤ 9223372036854775807 then impl_delta.l0 k x0 (x1.extract 1 x1.size) x5 (x6 ++ x1.extract 0 1) else none) else none))
def impl_delta.l1 : Nat → ByteArray → ByteArray → List (S59) → Int → Int → Option (List (S59))
  | 0, _, _, _, _, _ => none
  | k + 1, x0, x1, x5, x8, x9 => if x9 < (x1.size : Int) then (if (wrap64 (x8 + x9)) < (x0.size : Int) then (if 0 ≤ (wrap64 (x8 + x9)) then (if 0 ≤ x9 then (if (bt x0 (wrap64 (x8 + x9))) = (bt x1 x9) then impl_delta.l1 k x0 x1 x5 x8 (wrap64 (x9 + 1)) else impl_delta.j1 k x0 x1 x5 x8 x9) else none) else none) else impl_delta.j1 k x0 x1 x5 x8 x9) else impl_delta.j1 k x0 x1 x5 x8 x9
def impl_delta.j1 : Nat → ByteArray → ByteArray → List (S59) → Int → Int → Option (List (S59))
  | 0, _, _, _, _, _ => none
  | k + 1, x0, x1, x5, x8, x9 => if x5.length < 4398046511104 then (if 0 ≤ x9 then (if x9 ≤ (x1.size : Int) then impl_delta.l0 k x0 (x1.extract (x9 : Int).toNat x1.size) (x5 ++ [(⟨x8, x9, (⟨#[]⟩ : ByteArray)⟩ : S59)]) (⟨#[]⟩ : ByteArray) else none) else none) else none
end
def impl_delta.f (k : Nat) (a0 : ByteArray) (a1 : ByteArray) : Option (List (S59)) := impl_delta.l0 k a0 a1 [] (⟨#[]⟩ : ByteArray)
theorem impl_delta.mono_l : ∀ k, (∀ y0 y1 y2 y3, LeO (impl_delta.l0 k y0 y1 y2 y3) (impl_delta.l0 (k + 1) y0 y1 y2 y3)) ∧ (∀ y0 y1 y2 y3 y4, LeO (impl_delta.l1 k y0 y1 y2 y3 y4) (impl_delta.l1 (k + 1) y0 y1 y2 y3 y4)) ∧ (∀ y0 y1 y2 y3 y4, LeO (impl_delta.j1 k y0 y1 y2 y3 y4) (impl_delta.j1 (k + 1) y0 y1 y2 y3 y4))
  | 0 => ⟨fun _ _ _ _ r h => by simp [impl_delta.l0] at h, fun _ _ _ _ _ r h => by simp [impl_delta.l1] at h, fun _ _ _ _ _ r h => by simp [impl_delta.j1] at h⟩
  | k + 1 => by
    obtain ⟨ih0, ih1, ih2⟩ := impl_delta.mono_l k
    refine ⟨?_, ?_, ?_⟩
    · intro y0 y1 y2 y3
      unfold impl_delta.l0
      repeat' first
      | (with_reducible exact ih0 _ _ _ _)
      | (with_reducible exact ih1 _ _ _ _ _)
      | (with_reducible exact impl_block.mono _ _ _)
      | (with_reducible exact LeO.refl _)
      | (with_reducible exact LeO.none _)
      | (with_reducible refine LeO.ite ?_ ?_)
      | (with_reducible refine LeO.bind ?_ (fun _ => ?_))
    · intro y0 y1 y2 y3 y4
      unfold impl_delta.l1
      repeat' first
      | (with_reducible exact ih1 _ _ _ _ _)
      | (with_reducible exact ih2 _ _ _ _ _)
      | (with_reducible exact LeO.none _)
      | (with_reducible refine LeO.ite ?_ ?_)
    · intro y0 y1 y2 y3 y4
      unfold impl_delta.j1
      repeat' first
      | (with_reducible exact ih0 _ _ _ _)
      | (with_reducible exact LeO.none _)
      | (with_reducible refine LeO.ite ?_ ?_)
theorem impl_delta.mono : ∀ a0 a1 k, LeO (impl_delta.f k a0 a1) (impl_delta.f (k + 1) a0 a1) := fun a0 a1 k => (impl_delta.mono_l k).1 _ _ _ _
set_option maxHeartbeats 8000000 in
set_option maxRecDepth 100000 in
theorem impl_delta.calls (k : Nat) (a0 : ByteArray) (a1 : ByteArray) (r : List (S59)) (w : World) (h : impl_delta.f k a0 a1 = some r) :
    Calls Try.prog 57 #[.string a0, .string a1] w fun e w' => ∃ v0_ : Value, e = .returned (v0_) ∧ Kd.R k59 59 w' w.heap.size (fun _ => True) v0_ r ∧ Below w.heap.size w w' := by
  have hu59 := Try.underlying59
  have HB := Aside0.mk (Below.refl w.heap.size w)
  have H' := Aside0.mk (show impl_delta.l0 k a0 a1 [] (⟨#[]⟩ : ByteArray) = some r from h)
  clear h
  go_enter Try.func57, Try.ntmps57
  go_wp2
  have H0 := Aside0.mk (blk_alloc (blk_new w (Obj.cells #[Value.slice none 0 0] 35)) (Obj.cells #[Value.string { data := #[] }] 9))
  have H1 := Aside0.mk (show ((w.alloc (Obj.cells #[Value.slice none 0 0] 35)).alloc (Obj.cells #[Value.string { data := #[] }] 9)).heap[w.heap.size + 1]? = some (Obj.cells #[Value.string { data := #[] }] 9) from by simpa using blk_new (w.alloc (Obj.cells #[Value.slice none 0 0] 35)) (Obj.cells #[Value.string { data := #[] }] 9))
  go_loopg [1] k (fun kq v1 w' => ∃ (x1_1 : ByteArray) (x5_1 : List (S59)) (x6_1 : ByteArray) (v : Value), v1 = .string x1_1 ∧ Aside0 (impl_delta.l0 kq a0 x1_1 x5_1 x6_1 = some r) ∧ Aside0 (kq ≤ k) ∧ Aside0 (w'.heap[w.heap.size]? = some (.cells #[v] 35 (0, 0))) ∧ Aside0 (w'.heap[w.heap.size + 1]? = some (.cells #[.string x6_1] 9 (0, 0))) ∧ Aside0 (Kd.R k59 59 w' w.heap.size (fun q => q ≠ w.heap.size ∧ q ≠ w.heap.size + 1) v x5_1) ∧ Aside0 (Below w.heap.size w w'))
  case atStart => exact ⟨a1, [], ⟨#[]⟩, _, rfl, H', ⟨Nat.le_refl _⟩, H0, H1, ⟨Kd.R_nil _ _ _ _ _⟩, ⟨below_alloc (below_alloc HB.out _) _⟩⟩
  case round =>
    clear H' H0 H1 HB
    obtain ⟨x1_1, x5_1, x6_1, v, rfl, HA, HK1, H0, H1, HO, HB⟩ := hrel
    cases gk with
    | zero => exact absurd HA.out (by simp [impl_delta.l0])
    | succ k1 =>
      have H := HA.out
      clear HA
      simp only [impl_delta.l0] at H
      by_cases c1 : x1_1.toList = ([] : List UInt8)
      · rw [if_pos c1] at H
        have e1 : x1_1.toList.isEmpty = true := by simpa using c1
        have e2 : (!x1_1.toList.isEmpty) = false := by simpa using c1
        have e3 : (x1_1.toList == ([] : List UInt8)) = true := beq_iff_eq.mpr c1
        have e4 : (x1_1.toList != ([] : List UInt8)) = false := bne_eq_false_iff_eq.mpr c1
        clear c1
        by_cases c2 : x5_1.length < 4398046511104
        · rw [if_pos c2] at H
          obtain rfl := Option.some.inj H
          clear H
          have HE := Aside0.mk (fun W (hB : Below w.heap.size w W) (h0 : W.heap[w.heap.size]? = some (.cells #[v] 35 (0, 0))) (h1 : W.heap[w.heap.size + 1]? = some (.cells #[.string x6_1] 9 (0, 0))) (ho : Kd.R k59 59 W w.heap.size (fun q => q ≠ w.heap.size ∧ q ≠ w.heap.size + 1) v x5_1) => deltaEnd_calls w.heap.size (w.heap.size + 1) v x5_1 x6_1 w W hB (Nat.le_refl _) (Nat.le_succ _) (by omega) h0 h1 ho c2)
          go_wp2_with fail
          refine (HE.out _ (by first | exact HB.out | exact pw_below_drewN HB.out _) H0.out H1.out (by first | exact HO.out | exact Kd.R_drewN HO.out _)).mono ?_
          rintro e w' ⟨rfl, v', h0', h1', ho', hb'⟩
          have hx0 : w'.cell? ⟨w.heap.size, 0, none⟩ = some v' := (blk_cell h0' 0).trans rfl
          obtain ⟨Av, cv, rfl⟩ := Kd.R_slice ho'
          go_wp2
          go_ret
          exact ⟨_, rfl, Kd.R_mono ho' (fun _ _ => trivial), hb'⟩
        · rw [if_neg c2] at H
          exact absurd H (by simp)
      · rw [if_neg c1] at H
        have e1 : x1_1.toList.isEmpty = false := by simpa using c1
        have e2 : (!x1_1.toList.isEmpty) = true := by simpa using c1
        have e3 : (x1_1.toList == ([] : List UInt8)) = false := beq_eq_false_iff_ne.mpr c1
        have e4 : (x1_1.toList != ([] : List UInt8)) = true := bne_iff_ne.mpr c1
        clear c1
        obtain ⟨⟨t1, t2⟩, hb, H⟩ := Option.bind_eq_some_iff.1 H
        have HC := Aside0.mk (fun W => impl_block.calls k1 a0 x1_1 t1 t2 W hb)
        clear hb
        dsimp only at H
        cases t2 with
        | false =>
          rw [if_neg (by decide)] at H
          by_cases c3 : 1 ≤ (x1_1.size : Int)
          · rw [if_pos c3] at H
            by_cases c4 : x6_1.size + (x1_1.extract 0 1).size ≤ 9223372036854775807
            · rw [if_pos c4] at H
              have H' := Aside0.mk H
              clear H
              have hx1 : wr.cell? ⟨w.heap.size + 1, 0, none⟩ = some (.string x6_1) := (blk_cell H1.out 0).trans rfl
              have hf1 : wr.frozen? ⟨w.heap.size + 1, 0, none⟩ = false := blk_frozen H1.out 0
              have c3b0 := eq_true c3
              have c3b1 : decide (1 ≤ (x1_1.size : Int)) = true := decide_eq_true c3
              have c3n : 1 ≤ x1_1.size := by omega
              have c3n2 := eq_true c3n
              have c4b0 := eq_true c4
              have c4b2 : (9223372036854775807 < x6_1.size + (x1_1.extract 0 1).size) = False := eq_false (Nat.not_lt.2 c4)
              clear hx1 hf1
              go_wp2_with fail
              refine (HC.out _).mono ?_
              rintro e w' ⟨rfl, ⟨nd, rfl⟩⟩
              have H0' := Aside0.mk (blk_drewN H0.out nd)
              have H1' := Aside0.mk (blk_drewN H1.out nd)
              have HO' := Aside0.mk (Kd.R_drewN HO.out nd)
              have HB' := Aside0.mk (pw_below_drewN HB.out nd)
              clear H0 H1 HO HB
              generalize wr.drewN nd = W at H0' H1' HO' HB' ⊢
              have hx1 : W.cell? ⟨w.heap.size + 1, 0, none⟩ = some (.string x6_1) := (blk_cell H1'.out 0).trans rfl
              have hf1 : W.frozen? ⟨w.heap.size + 1, 0, none⟩ = false := blk_frozen H1'.out 0
              go_wp2
              go_region
              go_wp2
              go_roundg k1
              case measure => have := HK1.out; omega
              case rel => exact ⟨_, x5_1, x6_1 ++ x1_1.extract 0 1, v, rfl, H', ⟨by have := HK1.out; omega⟩, ⟨blk_drew (blk_far H0'.out (by simp) _)⟩, ⟨blk_drew ((blk_set H1'.out 0 _).trans rfl)⟩, ⟨Kd.R_drew (Kd.R_far HO'.out (p := ⟨w.heap.size + 1, 0, none⟩) (fun _ hk => hk.2) _)⟩, ⟨below_drew (below_set HB'.out (Nat.le_succ _))⟩⟩
            · rw [if_neg c4] at H
              exact absurd H (by simp)
          · rw [if_neg c3] at H
            exact absurd H (by simp)
        | true =>
          rw [if_pos rfl] at H
          by_cases c2 : x5_1.length < 4398046511104
          · rw [if_pos c2] at H
            have HE := Aside0.mk (fun W (hB : Below w.heap.size w W) (h0 : W.heap[w.heap.size]? = some (.cells #[v] 35 (0, 0))) (h1 : W.heap[w.heap.size + 1]? = some (.cells #[.string x6_1] 9 (0, 0))) (ho : Kd.R k59 59 W w.heap.size (fun q => q ≠ w.heap.size ∧ q ≠ w.heap.size + 1) v x5_1) => deltaEnd_calls w.heap.size (w.heap.size + 1) v x5_1 x6_1 w W hB (Nat.le_refl _) (Nat.le_succ _) (by omega) h0 h1 ho c2)
            have H' := Aside0.mk H
            clear H c2
            go_wp2_with fail
            refine (HC.out _).mono ?_
            rintro e w' ⟨rfl, ⟨nd, rfl⟩⟩
            go_wp2_with fail
            refine (HE.out _ (pw_below_drewN HB.out nd) (blk_drewN H0.out nd) (blk_drewN H1.out nd) (Kd.R_drewN HO.out nd)).mono ?_
            rintro e w2 ⟨rfl, v2, h0', h1', ho', hb'⟩
            clear HE HC H0 H1 HO HB
            have H0 := Aside0.mk h0'
            have H1 := Aside0.mk h1'
            have HO := Aside0.mk ho'
            have HB := Aside0.mk hb'
            clear h0' h1' ho' hb' e1 e2 e3 e4
            obtain ⟨x5_2, hx5⟩ : ∃ z, z = deltaOut x5_1 x6_1 := ⟨_, rfl⟩
            rw [← hx5] at H' HO
            clear hx5
            go_wp2
            go_loopg [10] k1 (fun kq v10 w' => ∃ (x9_1 : Int), v10 = .int .i64 x9_1 ∧ Aside0 (impl_delta.l1 kq a0 x1_1 x5_2 t1 x9_1 = some r) ∧ Aside0 (kq ≤ k1) ∧ Aside0 (w'.heap[w.heap.size]? = some (.cells #[v2] 35 (0, 0))) ∧ Aside0 (w'.heap[w.heap.size + 1]? = some (.cells #[.string ⟨#[]⟩] 9 (0, 0))) ∧ Aside0 (Kd.R k59 59 w' w.heap.size (fun q => q ≠ w.heap.size ∧ q ≠ w.heap.size + 1) v2 x5_2) ∧ Aside0 (Below w.heap.size w w'))
            case atStart => exact ⟨4, rfl, H', ⟨Nat.le_refl _⟩, H0, H1, HO, HB⟩
            case round =>
              clear H' H0 H1 HO HB
              obtain ⟨x9_1, rfl, HA, HK2, H0, H1, HO, HB⟩ := hrel
              cases gk with
              | zero => exact absurd HA.out (by simp [impl_delta.l1])
              | succ k2 =>
                have H := HA.out
                clear HA
                simp only [impl_delta.l1] at H
                by_cases d1 : x9_1 < (x1_1.size : Int)
                · rw [if_pos d1] at H
                  have d1b0 : decide (x9_1 < (x1_1.size : Int)) = true := decide_eq_true d1
                  obtain ⟨ji, hji⟩ : ∃ j : Int, wrap64 (t1 + x9_1) = j := ⟨_, rfl⟩
                  rw [hji] at H
                  have hjiw : (IntKind.i64.wrap (t1 + x9_1)) = ji := (i64_w _).trans hji
                  by_cases d2 : ji < (a0.size : Int)
                  · rw [if_pos d2] at H
                    have d2b0 : decide (ji < (a0.size : Int)) = true := decide_eq_true d2
                    by_cases d3 : 0 ≤ ji
                    · rw [if_pos d3] at H
                      by_cases d4 : 0 ≤ x9_1
                      · rw [if_pos d4] at H
                        have p23 := eq_true d3
                        have q23 := eq_true d2
                        have hx23 := bt_at a0 ji
                        have p26 := eq_true d4
                        have q26 := eq_true d1
                        have hx26 := bt_at x1_1 x9_1
                        clear d1 d2 d3 d4
                        by_cases d5 : (bt a0 ji) = (bt x1_1 x9_1)
                        · rw [if_pos d5] at H
                          have d5b0 : ((bt a0 ji) == (bt x1_1 x9_1)) = true := beq_iff_eq.mpr d5
                          have d5b1 : ((bt a0 ji) != (bt x1_1 x9_1)) = false := bne_eq_false_iff_eq.mpr d5
                          clear d5
                          have H' := Aside0.mk H
                          clear H
                          go_wp2
                          repeat (go_quiet (fail); try go_wp2)
                          go_roundg k2
                          case measure => have := HK2.out; omega
                          case rel => exact ⟨wrap64 (x9_1 + 1), by first | rfl | (simp; done), H', ⟨by have := HK2.out; omega⟩, ⟨by first | exact H0.out | exact blk_drewN H0.out _⟩, ⟨by first | exact H1.out | exact blk_drewN H1.out _⟩, ⟨by first | exact HO.out | exact Kd.R_drewN HO.out _⟩, ⟨by first | exact HB.out | exact pw_below_drewN HB.out _⟩⟩
                        · rw [if_neg d5] at H
                          have d5b0 : ((bt a0 ji) == (bt x1_1 x9_1)) = false := beq_eq_false_iff_ne.mpr d5
                          have d5b1 : ((bt a0 ji) != (bt x1_1 x9_1)) = true := bne_iff_ne.mpr d5
                          clear d5
                          cases k2 with
                          | zero => exact absurd H (by simp [impl_delta.j1])
                          | succ k3 =>
                            simp only [impl_delta.j1] at H
                            by_cases f1 : x5_2.length < 4398046511104
                            · rw [if_pos f1] at H
                              by_cases f2 : 0 ≤ x9_1
                              · rw [if_pos f2] at H
                                by_cases f3 : x9_1 ≤ (x1_1.size : Int)
                                · rw [if_pos f3] at H
                                  have HL := Aside0.mk f1
                                  clear f1
                                  have f2b := eq_true f2
                                  have f3b := eq_true f3
                                  obtain ⟨y, hy⟩ : ∃ y : List (S59), y = x5_2 ++ [(⟨t1, x9_1, (⟨#[]⟩ : ByteArray)⟩ : S59)] := ⟨_, rfl⟩
                                  rw [← hy] at H
                                  have HY := Aside0.mk hy
                                  clear hy
                                  have H' := Aside0.mk H
                                  clear H
                                  go_wp2
                                  repeat (go_quiet (fail); try go_wp2)
                                  have H0' := Aside0.mk (blk_drewN H0.out nq)
                                  have H1' := Aside0.mk (blk_drewN H1.out nq)
                                  have HO' := Aside0.mk (Kd.R_drewN HO.out nq)
                                  have HB' := Aside0.mk (pw_below_drewN HB.out nq)
                                  clear H0 H1 HO HB
                                  generalize wr.drewN nq = W at H0' H1' HO' HB' ⊢
                                  have hx0 : W.cell? ⟨w.heap.size, 0, none⟩ = some v2 := (blk_cell H0'.out 0).trans rfl
                                  have hf0 : W.frozen? ⟨w.heap.size, 0, none⟩ = false := blk_frozen H0'.out 0
                                  have hxa : (W.alloc (Obj.cells #[Value.int IntKind.i64 t1, Value.int IntKind.i64 x9_1, Value.string { data := #[] }] 59)).cell? ⟨w.heap.size, 0, none⟩ = some v2 := (blk_cell (blk_alloc H0'.out _) 0).trans rfl
                                  go_region_law (show (if Region.wanted _ _ = true then Oper.wp Try.prog _ _ (World.alloc (World.drew W) (Obj.cells #[Value.int IntKind.i64 t1, Value.int IntKind.i64 x9_1, Value.string { data := #[] }] 59)) _ _ else _); refine Kd.R_append_step k59 (w0 := w) w.heap.size (by rfl) (.tmp 55) (.tmp 59) 35 59 (.agg #[(.int .i64 0), (.int .i64 0), (.string ⟨#[]⟩)]) 32 rfl Try.underlying35 info59 rfl (by decide) (by omega) v2 x5_2 (⟨t1, x9_1, (⟨#[]⟩ : ByteArray)⟩ : S59) [.int .i64 t1, .int .i64 x9_1, .string ⟨#[]⟩] (fun q => q ≠ w.heap.size ∧ q ≠ w.heap.size + 1) (fun _ => False) rfl rfl ?aP (fun _ hk => hk.elim) ?aF ?aO ?aB ?aS ?aL ?_; (case aP => exact k59_mkM _ _ _ (⟨t1, x9_1, (⟨#[]⟩ : ByteArray)⟩ : S59)); (case aB => exact below_drew HB'.out); (case aF => exact (fun q hq => by have g0 := blk_lt H0'.out; have g1 := blk_lt H1'.out; have hk' : W.heap.size ≤ q := (by first | exact hq | (simp at hq; omega)); exact ⟨by omega, by omega⟩)); (case aO => exact Kd.R_drew HO'.out); (case aS => exact (below_drew HB'.out).size); (case aL => have := HL.out; omega); intro v3 w3 ho hb hg hat; rw [← HY.out] at ho; obtain ⟨Av, cv, rfl⟩ := Kd.R_slice ho; have HO3 := Aside0.mk ho; have HB3 := Aside0.mk hb; have H03 := Aside0.mk (blk_grown (blk_drew H0'.out) hg (Kd.R_away HO'.out (fun q hq => hq.1))); have H13 := Aside0.mk (blk_grown (blk_drew H1'.out) hg (Kd.R_away HO'.out (fun q hq => hq.2))); clear ho hb hg hat hx0 hf0 hxa H0' H1' HO' HB'; have hx0 : w3.cell? ⟨w.heap.size, 0, none⟩ = some v2 := (blk_cell H03.out 0).trans rfl; have hf0 : w3.frozen? ⟨w.heap.size, 0, none⟩ = false := blk_frozen H03.out 0)
                                  all_goals
                                    go_wp2
                                    go_roundg k3
                                    case measure => have := HK2.out; omega
                                    case rel => exact ⟨_, y, ⟨#[]⟩, .slice Av y.length cv, rfl, H', ⟨by have := HK1.out; have := HK2.out; omega⟩, ⟨(blk_set H03.out 0 _).trans rfl⟩, ⟨blk_far H13.out (p := ⟨w.heap.size, 0, none⟩) (by simp) _⟩, ⟨Kd.R_far HO3.out (p := ⟨w.heap.size, 0, none⟩) (fun _ hk => hk.1) _⟩, ⟨below_set HB3.out (Nat.le_refl _)⟩⟩
                                · rw [if_neg f3] at H
                                  exact absurd H (by simp)
                              · rw [if_neg f2] at H
                                exact absurd H (by simp)
                            · rw [if_neg f1] at H
                              exact absurd H (by simp)
                      · rw [if_neg d4] at H
                        exact absurd H (by simp)
                    · rw [if_neg d3] at H
                      exact absurd H (by simp)
                  · rw [if_neg d2] at H
                    have d2b0 : decide (ji < (a0.size : Int)) = false := decide_eq_false d2
                    clear d1 d2
                    cases k2 with
                    | zero => exact absurd H (by simp [impl_delta.j1])
                    | succ k3 =>
                      simp only [impl_delta.j1] at H
                      by_cases f1 : x5_2.length < 4398046511104
                      · rw [if_pos f1] at H
                        by_cases f2 : 0 ≤ x9_1
                        · rw [if_pos f2] at H
                          by_cases f3 : x9_1 ≤ (x1_1.size : Int)
                          · rw [if_pos f3] at H
                            have HL := Aside0.mk f1
                            clear f1
                            have f2b := eq_true f2
                            have f3b := eq_true f3
                            obtain ⟨y, hy⟩ : ∃ y : List (S59), y = x5_2 ++ [(⟨t1, x9_1, (⟨#[]⟩ : ByteArray)⟩ : S59)] := ⟨_, rfl⟩
                            rw [← hy] at H
                            have HY := Aside0.mk hy
                            clear hy
                            have H' := Aside0.mk H
                            clear H
                            go_wp2
                            repeat (go_quiet (fail); try go_wp2)
                            have H0' := Aside0.mk (blk_drewN H0.out nq)
                            have H1' := Aside0.mk (blk_drewN H1.out nq)
                            have HO' := Aside0.mk (Kd.R_drewN HO.out nq)
                            have HB' := Aside0.mk (pw_below_drewN HB.out nq)
                            clear H0 H1 HO HB
                            generalize wr.drewN nq = W at H0' H1' HO' HB' ⊢
                            have hx0 : W.cell? ⟨w.heap.size, 0, none⟩ = some v2 := (blk_cell H0'.out 0).trans rfl
                            have hf0 : W.frozen? ⟨w.heap.size, 0, none⟩ = false := blk_frozen H0'.out 0
                            have hxa : (W.alloc (Obj.cells #[Value.int IntKind.i64 t1, Value.int IntKind.i64 x9_1, Value.string { data := #[] }] 59)).cell? ⟨w.heap.size, 0, none⟩ = some v2 := (blk_cell (blk_alloc H0'.out _) 0).trans rfl
                            go_region_law (show (if Region.wanted _ _ = true then Oper.wp Try.prog _ _ (World.alloc (World.drew W) (Obj.cells #[Value.int IntKind.i64 t1, Value.int IntKind.i64 x9_1, Value.string { data := #[] }] 59)) _ _ else _); refine Kd.R_append_step k59 (w0 := w) w.heap.size (by rfl) (.tmp 55) (.tmp 59) 35 59 (.agg #[(.int .i64 0), (.int .i64 0), (.string ⟨#[]⟩)]) 32 rfl Try.underlying35 info59 rfl (by decide) (by omega) v2 x5_2 (⟨t1, x9_1, (⟨#[]⟩ : ByteArray)⟩ : S59) [.int .i64 t1, .int .i64 x9_1, .string ⟨#[]⟩] (fun q => q ≠ w.heap.size ∧ q ≠ w.heap.size + 1) (fun _ => False) rfl rfl ?aP (fun _ hk => hk.elim) ?aF ?aO ?aB ?aS ?aL ?_; (case aP => exact k59_mkM _ _ _ (⟨t1, x9_1, (⟨#[]⟩ : ByteArray)⟩ : S59)); (case aB => exact below_drew HB'.out); (case aF => exact (fun q hq => by have g0 := blk_lt H0'.out; have g1 := blk_lt H1'.out; have hk' : W.heap.size ≤ q := (by first | exact hq | (simp at hq; omega)); exact ⟨by omega, by omega⟩)); (case aO => exact Kd.R_drew HO'.out); (case aS => exact (below_drew HB'.out).size); (case aL => have := HL.out; omega); intro v3 w3 ho hb hg hat; rw [← HY.out] at ho; obtain ⟨Av, cv, rfl⟩ := Kd.R_slice ho; have HO3 := Aside0.mk ho; have HB3 := Aside0.mk hb; have H03 := Aside0.mk (blk_grown (blk_drew H0'.out) hg (Kd.R_away HO'.out (fun q hq => hq.1))); have H13 := Aside0.mk (blk_grown (blk_drew H1'.out) hg (Kd.R_away HO'.out (fun q hq => hq.2))); clear ho hb hg hat hx0 hf0 hxa H0' H1' HO' HB'; have hx0 : w3.cell? ⟨w.heap.size, 0, none⟩ = some v2 := (blk_cell H03.out 0).trans rfl; have hf0 : w3.frozen? ⟨w.heap.size, 0, none⟩ = false := blk_frozen H03.out 0)
                            all_goals
                              go_wp2
                              go_roundg k3
                              case measure => have := HK2.out; omega
                              case rel => exact ⟨_, y, ⟨#[]⟩, .slice Av y.length cv, rfl, H', ⟨by have := HK1.out; have := HK2.out; omega⟩, ⟨(blk_set H03.out 0 _).trans rfl⟩, ⟨blk_far H13.out (p := ⟨w.heap.size, 0, none⟩) (by simp) _⟩, ⟨Kd.R_far HO3.out (p := ⟨w.heap.size, 0, none⟩) (fun _ hk => hk.1) _⟩, ⟨below_set HB3.out (Nat.le_refl _)⟩⟩
                          · rw [if_neg f3] at H
                            exact absurd H (by simp)
                        · rw [if_neg f2] at H
                          exact absurd H (by simp)
                      · rw [if_neg f1] at H
                        exact absurd H (by simp)
                · rw [if_neg d1] at H
                  have d1b0 : decide (x9_1 < (x1_1.size : Int)) = false := decide_eq_false d1
                  clear d1
                  cases k2 with
                  | zero => exact absurd H (by simp [impl_delta.j1])
                  | succ k3 =>
                    simp only [impl_delta.j1] at H
                    by_cases f1 : x5_2.length < 4398046511104
                    · rw [if_pos f1] at H
                      by_cases f2 : 0 ≤ x9_1
                      · rw [if_pos f2] at H
                        by_cases f3 : x9_1 ≤ (x1_1.size : Int)
                        · rw [if_pos f3] at H
                          have HL := Aside0.mk f1
                          clear f1
                          have f2b := eq_true f2
                          have f3b := eq_true f3
                          obtain ⟨y, hy⟩ : ∃ y : List (S59), y = x5_2 ++ [(⟨t1, x9_1, (⟨#[]⟩ : ByteArray)⟩ : S59)] := ⟨_, rfl⟩
                          rw [← hy] at H
                          have HY := Aside0.mk hy
                          clear hy
                          have H' := Aside0.mk H
                          clear H
                          go_wp2
                          repeat (go_quiet (fail); try go_wp2)
                          have H0' := Aside0.mk (blk_drewN H0.out nq)
                          have H1' := Aside0.mk (blk_drewN H1.out nq)
                          have HO' := Aside0.mk (Kd.R_drewN HO.out nq)
                          have HB' := Aside0.mk (pw_below_drewN HB.out nq)
                          clear H0 H1 HO HB
                          generalize wr.drewN nq = W at H0' H1' HO' HB' ⊢
                          have hx0 : W.cell? ⟨w.heap.size, 0, none⟩ = some v2 := (blk_cell H0'.out 0).trans rfl
                          have hf0 : W.frozen? ⟨w.heap.size, 0, none⟩ = false := blk_frozen H0'.out 0
                          have hxa : (W.alloc (Obj.cells #[Value.int IntKind.i64 t1, Value.int IntKind.i64 x9_1, Value.string { data := #[] }] 59)).cell? ⟨w.heap.size, 0, none⟩ = some v2 := (blk_cell (blk_alloc H0'.out _) 0).trans rfl
                          go_region_law (show (if Region.wanted _ _ = true then Oper.wp Try.prog _ _ (World.alloc (World.drew W) (Obj.cells #[Value.int IntKind.i64 t1, Value.int IntKind.i64 x9_1, Value.string { data := #[] }] 59)) _ _ else _); refine Kd.R_append_step k59 (w0 := w) w.heap.size (by rfl) (.tmp 55) (.tmp 59) 35 59 (.agg #[(.int .i64 0), (.int .i64 0), (.string ⟨#[]⟩)]) 32 rfl Try.underlying35 info59 rfl (by decide) (by omega) v2 x5_2 (⟨t1, x9_1, (⟨#[]⟩ : ByteArray)⟩ : S59) [.int .i64 t1, .int .i64 x9_1, .string ⟨#[]⟩] (fun q => q ≠ w.heap.size ∧ q ≠ w.heap.size + 1) (fun _ => False) rfl rfl ?aP (fun _ hk => hk.elim) ?aF ?aO ?aB ?aS ?aL ?_; (case aP => exact k59_mkM _ _ _ (⟨t1, x9_1, (⟨#[]⟩ : ByteArray)⟩ : S59)); (case aB => exact below_drew HB'.out); (case aF => exact (fun q hq => by have g0 := blk_lt H0'.out; have g1 := blk_lt H1'.out; have hk' : W.heap.size ≤ q := (by first | exact hq | (simp at hq; omega)); exact ⟨by omega, by omega⟩)); (case aO => exact Kd.R_drew HO'.out); (case aS => exact (below_drew HB'.out).size); (case aL => have := HL.out; omega); intro v3 w3 ho hb hg hat; rw [← HY.out] at ho; obtain ⟨Av, cv, rfl⟩ := Kd.R_slice ho; have HO3 := Aside0.mk ho; have HB3 := Aside0.mk hb; have H03 := Aside0.mk (blk_grown (blk_drew H0'.out) hg (Kd.R_away HO'.out (fun q hq => hq.1))); have H13 := Aside0.mk (blk_grown (blk_drew H1'.out) hg (Kd.R_away HO'.out (fun q hq => hq.2))); clear ho hb hg hat hx0 hf0 hxa H0' H1' HO' HB'; have hx0 : w3.cell? ⟨w.heap.size, 0, none⟩ = some v2 := (blk_cell H03.out 0).trans rfl; have hf0 : w3.frozen? ⟨w.heap.size, 0, none⟩ = false := blk_frozen H03.out 0)
                          all_goals
                            go_wp2
                            go_roundg k3
                            case measure => have := HK2.out; omega
                            case rel => exact ⟨_, y, ⟨#[]⟩, .slice Av y.length cv, rfl, H', ⟨by have := HK1.out; have := HK2.out; omega⟩, ⟨(blk_set H03.out 0 _).trans rfl⟩, ⟨blk_far H13.out (p := ⟨w.heap.size, 0, none⟩) (by simp) _⟩, ⟨Kd.R_far HO3.out (p := ⟨w.heap.size, 0, none⟩) (fun _ hk => hk.1) _⟩, ⟨below_set HB3.out (Nat.le_refl _)⟩⟩
                        · rw [if_neg f3] at H
                          exact absurd H (by simp)
                      · rw [if_neg f2] at H
                        exact absurd H (by simp)
                    · rw [if_neg f1] at H
                      exact absurd H (by simp)
          · rw [if_neg c2] at H
            exact absurd H (by simp)

/-! ### impl_ThenDelta: function 36 -/
def impl_ThenDelta.f (k : Nat) (a0 : ByteArray) (l1 : List (S59)) (l2 : List (S59)) : Option ((List (S59)) × Bool) := (impl_ApplyDelta.f k a0 l1).bind fun bt174 => (if bt174.2 = true then ((impl_ApplyDelta.f k bt174.1 l2).bind fun bt176 => (if bt176.2 = true then ((impl_delta.f k a0 bt176.1).bind fun t178 => (some (t178, true))) else (some (([] : List (S59)), false)))) else (some (([] : List (S59)), false)))
theorem impl_ThenDelta.mono : ∀ a0 a1 a2 k, LeO (impl_ThenDelta.f k a0 a1 a2) (impl_ThenDelta.f (k + 1) a0 a1 a2) := by
  intro a0 a1 a2 k
  unfold impl_ThenDelta.f
  repeat' first
      | (with_reducible exact impl_ApplyDelta.mono _ _ _)
      | (with_reducible exact impl_delta.mono _ _ _)
      | (with_reducible exact LeO.refl _)
      | (with_reducible exact LeO.none _)
      | (with_reducible refine LeO.ite ?_ ?_)
      | (with_reducible refine LeO.bind ?_ (fun _ => ?_))
      | exact impl_ApplyDelta.mono _ _ _
      | exact impl_delta.mono _ _ _
      | exact LeO.none _
      | refine LeO.ite ?_ ?_
      | refine LeO.bind ?_ (fun _ => ?_)
set_option maxHeartbeats 8000000 in
set_option maxRecDepth 100000 in
theorem impl_ThenDelta.calls (k : Nat) (a0 : ByteArray) (A1 : Option Addr) (c1 : Nat) (l1 : List (S59)) (A2 : Option Addr) (c2 : Nat) (l2 : List (S59)) (r1 : List (S59)) (r2 : Bool) (w : World) (hr1 : Kd.C k59 w A1 l1.length l1) (hc1 : l1.length ≤ c1) (hr2 : Kd.C k59 w A2 l2.length l2) (hc2 : l2.length ≤ c2) (h : impl_ThenDelta.f k a0 l1 l2 = some (r1, r2)) :
    Calls Try.prog 36 #[.string a0, .slice A1 l1.length c1, .slice A2 l2.length c2] w fun e w' => ∃ v0_ : Value, e = .returned (.tuple #[v0_, .bool r2]) ∧ Kd.R k59 59 w' w.heap.size (fun _ => True) v0_ r1 ∧ Below w.heap.size w w' := by
  have HR1 := Aside0.mk hr1
  have HC1 := Aside0.mk hc1
  clear hr1 hc1
  have HR2 := Aside0.mk hr2
  have HC2 := Aside0.mk hc2
  clear hr2 hc2
  have HB := Aside0.mk (Below.refl w.heap.size w)
  have H : ((impl_ApplyDelta.f k a0 l1).bind fun bt174 => (if bt174.2 = true then ((impl_ApplyDelta.f k bt174.1 l2).bind fun bt176 => (if bt176.2 = true then ((impl_delta.f k a0 bt176.1).bind fun t178 => (some (t178, true))) else (some (([] : List (S59)), false)))) else (some (([] : List (S59)), false)))) = some (r1, r2) := h
  clear h
  replace H := Option.bind_eq_some_iff.mp H
  obtain ⟨⟨t174, t175⟩, A40, H⟩ := H
  replace H : (if t175 = true then ((impl_ApplyDelta.f k t174 l2).bind fun bt176 => (if bt176.2 = true then ((impl_delta.f k a0 bt176.1).bind fun t178 => (some (t178, true))) else (some (([] : List (S59)), false)))) else (some (([] : List (S59)), false))) = some (r1, r2) := H
  have A4 := Aside0.mk A40
  clear A40
  by_cases c5 : t175 = true
  · subst c5
    have H1 : ((impl_ApplyDelta.f k t174 l2).bind fun bt176 => (if bt176.2 = true then ((impl_delta.f k a0 bt176.1).bind fun t178 => (some (t178, true))) else (some (([] : List (S59)), false)))) = some (r1, r2) := by rw [if_pos rfl] at H; exact H
    clear H
    have H := H1
    clear H1
    replace H := Option.bind_eq_some_iff.mp H
    obtain ⟨⟨t176, t177⟩, A60, H⟩ := H
    replace H : (if t177 = true then ((impl_delta.f k a0 t176).bind fun t178 => (some (t178, true))) else (some (([] : List (S59)), false))) = some (r1, r2) := H
    have A6 := Aside0.mk A60
    clear A60
    by_cases c7 : t177 = true
    · subst c7
      have H1 : ((impl_delta.f k a0 t176).bind fun t178 => (some (t178, true))) = some (r1, r2) := by rw [if_pos rfl] at H; exact H
      clear H
      have H := H1
      clear H1
      replace H := Option.bind_eq_some_iff.mp H
      obtain ⟨t178, A80, H⟩ := H
      replace H : (some (t178, true)) = some (r1, r2) := H
      have A8 := Aside0.mk A80
      clear A80
      simp only [Option.some.injEq, Prod.mk.injEq] at H
      obtain ⟨rfl, rfl⟩ := H
      go_enter Try.func36, Try.ntmps36
      go_wp2_with (first | ((with_reducible refine gate_callee (f := 30) rfl ?_); refine goesL_ (some 14) rfl rfl Try.func30 (by kernel_rfl) rfl #[.string a0, .slice A1 l1.length c1] rfl (by (try simp only [List.map_toArray, List.map_cons, List.map_nil]); first | done | rfl | (simp only [List.length_drop, List.length_take]; rfl)) ?_; (with_reducible refine (impl_ApplyDelta.calls k a0 _ _ l1 t174 true _ ?side1 ?side2 A4.out).mono ?_); (case side1 => repeat (first | exact HR1.out | (with_reducible refine Kd.C_alloc ?_ _) | (with_reducible refine Kd.C_drewN ?_ _) | (with_reducible refine Kd.C_drew ?_))); (case side2 => exact HC1.out); rintro e w9 ⟨rfl, hb⟩; refine ⟨_, rfl, ?_⟩; have n0_ := Aside0.mk (below_step (by repeat (first | (with_reducible first | exact HB.out | apply below_alloc | apply pw_below_drewN | apply below_drew1) | exact HB.out)) hb); clear HB; have HB := n0_; clear n0_; (try clear hb); (try clear hb2); (try clear hk); (try clear hi)) | ((with_reducible refine gate_callee (f := 30) rfl ?_); refine goesL_ (some 22) rfl rfl Try.func30 (by kernel_rfl) rfl #[.string t174, .slice A2 l2.length c2] rfl (by (try simp only [List.map_toArray, List.map_cons, List.map_nil]); first | done | rfl | (simp only [List.length_drop, List.length_take]; rfl)) ?_; (with_reducible refine (impl_ApplyDelta.calls k t174 _ _ l2 t176 true _ ?side1 ?side2 A6.out).mono ?_); (case side1 => repeat (first | exact (Kd.C_below HR2.out HB.out) | (with_reducible refine Kd.C_alloc ?_ _) | (with_reducible refine Kd.C_drewN ?_ _) | (with_reducible refine Kd.C_drew ?_))); (case side2 => exact HC2.out); rintro e w10 ⟨rfl, hb⟩; refine ⟨_, rfl, ?_⟩; have n0_ := Aside0.mk (below_step (by repeat (first | (with_reducible first | exact HB.out | apply below_alloc | apply pw_below_drewN | apply below_drew1) | exact HB.out)) hb); clear HB; have HB := n0_; clear n0_; (try clear hb); (try clear hb2); (try clear hk); (try clear hi)) | ((with_reducible refine gate_callee (f := 57) rfl ?_); refine goesL_ (some 29) rfl rfl Try.func57 (by kernel_rfl) rfl #[.string a0, .string t176] rfl (by (try simp only [List.map_toArray, List.map_cons, List.map_nil]); first | done | rfl | (simp only [List.length_drop, List.length_take]; rfl)) ?_; (with_reducible refine (impl_delta.calls k a0 t176 t178 _ A8.out).mono ?_); rintro e w11 ⟨v179, rfl, ho0, hb⟩; refine ⟨_, rfl, ?_⟩; have n0_ := Aside0.mk (Kd.R_lower ho0 (below_size (by repeat (first | (with_reducible first | exact HB.out | apply below_alloc | apply pw_below_drewN | apply below_drew1) | exact HB.out)))); have n1_ := Aside0.mk (below_step (by repeat (first | (with_reducible first | exact HB.out | apply below_alloc | apply pw_below_drewN | apply below_drew1) | exact HB.out)) hb); clear HB; have HO180 := n0_; have HB := n1_; clear n0_ n1_; (try clear hb); (try clear hb2); (try clear hk); (try clear hi); (try clear ho0)))
      go_ret2
      exact ⟨_, by first | rfl | (simp [errW_none, errW_some] <;> rfl) | (simp [*, errW_none, errW_some] <;> rfl), by (with_reducible repeat (first | apply Kd.R_alloc | apply Kd.R_drewN | apply Kd.R_drew)); exact HO180.out, by repeat (first | (with_reducible first | exact HB.out | apply below_alloc | apply pw_below_drewN | apply below_drew1) | exact HB.out)⟩
    · replace c7 := Bool.eq_false_iff.mpr c7
      subst c7
      have H1 : (some (([] : List (S59)), false)) = some (r1, r2) := by rw [if_neg (show ¬ (false = true) by decide)] at H; exact H
      clear H
      have H := H1
      clear H1
      simp only [Option.some.injEq, Prod.mk.injEq] at H
      obtain ⟨rfl, rfl⟩ := H
      go_enter Try.func36, Try.ntmps36
      go_wp2_with (first | ((with_reducible refine gate_callee (f := 30) rfl ?_); refine goesL_ (some 14) rfl rfl Try.func30 (by kernel_rfl) rfl #[.string a0, .slice A1 l1.length c1] rfl (by (try simp only [List.map_toArray, List.map_cons, List.map_nil]); first | done | rfl | (simp only [List.length_drop, List.length_take]; rfl)) ?_; (with_reducible refine (impl_ApplyDelta.calls k a0 _ _ l1 t174 true _ ?side1 ?side2 A4.out).mono ?_); (case side1 => repeat (first | exact HR1.out | (with_reducible refine Kd.C_alloc ?_ _) | (with_reducible refine Kd.C_drewN ?_ _) | (with_reducible refine Kd.C_drew ?_))); (case side2 => exact HC1.out); rintro e w12 ⟨rfl, hb⟩; refine ⟨_, rfl, ?_⟩; have n0_ := Aside0.mk (below_step (by repeat (first | (with_reducible first | exact HB.out | apply below_alloc | apply pw_below_drewN | apply below_drew1) | exact HB.out)) hb); clear HB; have HB := n0_; clear n0_; (try clear hb); (try clear hb2); (try clear hk); (try clear hi)) | ((with_reducible refine gate_callee (f := 30) rfl ?_); refine goesL_ (some 22) rfl rfl Try.func30 (by kernel_rfl) rfl #[.string t174, .slice A2 l2.length c2] rfl (by (try simp only [List.map_toArray, List.map_cons, List.map_nil]); first | done | rfl | (simp only [List.length_drop, List.length_take]; rfl)) ?_; (with_reducible refine (impl_ApplyDelta.calls k t174 _ _ l2 t176 false _ ?side1 ?side2 A6.out).mono ?_); (case side1 => repeat (first | exact (Kd.C_below HR2.out HB.out) | (with_reducible refine Kd.C_alloc ?_ _) | (with_reducible refine Kd.C_drewN ?_ _) | (with_reducible refine Kd.C_drew ?_))); (case side2 => exact HC2.out); rintro e w13 ⟨rfl, hb⟩; refine ⟨_, rfl, ?_⟩; have n0_ := Aside0.mk (below_step (by repeat (first | (with_reducible first | exact HB.out | apply below_alloc | apply pw_below_drewN | apply below_drew1) | exact HB.out)) hb); clear HB; have HB := n0_; clear n0_; (try clear hb); (try clear hb2); (try clear hk); (try clear hi)))
      go_ret2
      exact ⟨_, by first | rfl | (simp [errW_none, errW_some] <;> rfl) | (simp [*, errW_none, errW_some] <;> rfl), by first | exact Kd.R_nil _ _ _ _ _ | exact Kd.N_nil _ _ _ _ _ | exact Kd.V_nil _ _ _ _ _ | exact Kd.Q_nil _ _ _ _ _ | exact Kd.S_nil _ _ _ _ _, by repeat (first | (with_reducible first | exact HB.out | apply below_alloc | apply pw_below_drewN | apply below_drew1) | exact HB.out)⟩
  · replace c5 := Bool.eq_false_iff.mpr c5
    subst c5
    have H1 : (some (([] : List (S59)), false)) = some (r1, r2) := by rw [if_neg (show ¬ (false = true) by decide)] at H; exact H
    clear H
    have H := H1
    clear H1
    simp only [Option.some.injEq, Prod.mk.injEq] at H
    obtain ⟨rfl, rfl⟩ := H
    go_enter Try.func36, Try.ntmps36
    go_wp2_with (first | ((with_reducible refine gate_callee (f := 30) rfl ?_); refine goesL_ (some 14) rfl rfl Try.func30 (by kernel_rfl) rfl #[.string a0, .slice A1 l1.length c1] rfl (by (try simp only [List.map_toArray, List.map_cons, List.map_nil]); first | done | rfl | (simp only [List.length_drop, List.length_take]; rfl)) ?_; (with_reducible refine (impl_ApplyDelta.calls k a0 _ _ l1 t174 false _ ?side1 ?side2 A4.out).mono ?_); (case side1 => repeat (first | exact HR1.out | (with_reducible refine Kd.C_alloc ?_ _) | (with_reducible refine Kd.C_drewN ?_ _) | (with_reducible refine Kd.C_drew ?_))); (case side2 => exact HC1.out); rintro e w14 ⟨rfl, hb⟩; refine ⟨_, rfl, ?_⟩; have n0_ := Aside0.mk (below_step (by repeat (first | (with_reducible first | exact HB.out | apply below_alloc | apply pw_below_drewN | apply below_drew1) | exact HB.out)) hb); clear HB; have HB := n0_; clear n0_; (try clear hb); (try clear hb2); (try clear hk); (try clear hi)))
    go_ret2
    exact ⟨_, by first | rfl | (simp [errW_none, errW_some] <;> rfl) | (simp [*, errW_none, errW_some] <;> rfl), by first | exact Kd.R_nil _ _ _ _ _ | exact Kd.N_nil _ _ _ _ _ | exact Kd.V_nil _ _ _ _ _ | exact Kd.Q_nil _ _ _ _ _ | exact Kd.S_nil _ _ _ _ _, by repeat (first | (with_reducible first | exact HB.out | apply below_alloc | apply pw_below_drewN | apply below_drew1) | exact HB.out)⟩

/-! ### opens: our own -/
/-- What is read of a value of type t, whatever the fuel, is told by the kind d; and what is read is well formed. -/
def Opens {α : Type} (P : Program) (t : TypeId) (d : Kd α) (wf : α → Prop) : Prop :=
  ∀ (H : Type) (enc : TypeId × Value → H) (w : World) (base : Nat) (spare : Nat → Bool) (held : Bool) (fuel : Nat) (cs : List Value) (x : DataW H × List MemPlace), DataW.trod enc P w base spare held fuel t cs = some x → ∃ y : α, d.K w y cs ∧ wf y
theorem opens_int {P : Program} {t : TypeId} {k : IntKind} (ht : P.underlying t = some (.int k)) : Opens P t (Kd.int k) (fun n => (Lit.int k n).wf = true) := by
  intro H enc w base spare held fuel cs x h
  obtain ⟨n, hcs, _, hw⟩ := DataW.trod_int ht h
  exact ⟨n, hcs, hw⟩
theorem opens_bool {P : Program} {t : TypeId} (ht : P.underlying t = some .bool) : Opens P t Kd.bool (fun _ => True) := by
  intro H enc w base spare held fuel cs x h
  obtain ⟨b, hcs, _⟩ := DataW.trod_bool ht h
  exact ⟨b, hcs, trivial⟩
theorem opens_string {P : Program} {t : TypeId} (ht : P.underlying t = some .string) : Opens P t Kd.string (fun s => s.size ≤ maxLen) := by
  intro H enc w base spare held fuel cs x h
  obtain ⟨s, hcs, _, hs⟩ := DataW.trod_string ht h
  exact ⟨s, hcs, hs⟩
/-- from 'for every i < n there is one' to a list -/
theorem list_of {α : Type} {n : Nat} {p : Nat → α → Prop} (h : ∀ i, i < n → ∃ y, p i y) : ∃ l : List α, l.length = n ∧ ∀ i y, l[i]? = some y → p i y := by
  induction n with
  | zero => exact ⟨[], rfl, fun i y hy => by simp at hy⟩
  | succ n ih =>
    obtain ⟨l, hl, hp⟩ := ih (fun i hi => h i (by omega))
    obtain ⟨y, hy⟩ := h n (by omega)
    refine ⟨l ++ [y], by simp [hl], fun i z hz => ?_⟩
    by_cases hi : i < n
    · rw [List.getElem?_append_left (by omega)] at hz
      exact hp i z hz
    · have hin : i < (l ++ [y]).length := (List.getElem?_eq_some_iff.1 hz).1
      have : i = n := by simp [hl] at hin; omega
      subst this
      rw [List.getElem?_append_right (by omega), hl] at hz
      simp at hz
      rw [← hz]
      exact hy
theorem opens_slice {α : Type} {P : Program} {t e : TypeId} {d : Kd α} {wf : α → Prop} (ht : P.underlying t = some (.slice e)) (hc : P.cellsOf e = d.sz) (hd : Opens P e d wf) :
    Opens P t (Kd.slice e d) (fun l => l.length ≤ maxLen ∧ ∀ x ∈ l, wf x) := by
  intro H enc w base spare held fuel cs x h
  rcases DataW.trod_slice ht h with ⟨rfl, _⟩ | ⟨a, len, cap, elems, rest, n, _, rfl, _, _, hl, hcap, hlen, hel, _, _⟩
  · exact ⟨[], ⟨none, 0, rfl, Nat.le_refl _, Kd.C_nil d w⟩, by simp, by simp⟩
  · have key : ∀ i, i < len → ∃ y : α, ∃ c, w.cells? base (a.add (i * P.cellsOf e)) (P.cellsOf e) = some c ∧ d.K w y c ∧ wf y := by
      intro i hi
      have h1 := hel i hi
      rw [List.getElem?_eq_getElem (by omega)] at h1
      obtain ⟨c, h2, h3⟩ := Option.bind_eq_some_iff.1 h1
      obtain ⟨y, hy, hw⟩ := hd _ _ _ _ _ _ _ _ _ h3
      exact ⟨y, c, h2, hy, hw⟩
    obtain ⟨l, hll, hp⟩ := list_of key
    subst hll
    have hm : l.length ≤ maxLen := Nat.le_trans hl hcap
    refine ⟨l, ⟨some a, cap, rfl, hl, ⟨rfl, by unfold maxLen at hm; omega, fun _ => ⟨a, rfl, fun j y hy => ?_⟩⟩⟩, hm, fun y hy => ?_⟩
    · obtain ⟨c, h1, h2, _⟩ := hp j y hy
      obtain ⟨_, h3, h4⟩ := World.cells?_some h1
      refine ⟨c, d.K_len h2, h2, fun i u hu => ?_⟩
      have hi : i < P.cellsOf e := by rw [← h3]; exact (List.getElem?_eq_some_iff.1 hu).1
      have h5 := h4 i hi
      rw [hu, hc] at h5
      rw [← h5]
      congr 1
      unfold Addr.add
      by_cases z1 : j * d.sz = 0 <;> by_cases z2 : i = 0 <;> simp [z1, z2, Nat.add_assoc]
    · obtain ⟨j, hj⟩ := List.getElem?_of_mem hy
      obtain ⟨_, _, _, h3⟩ := hp j y hj
      exact h3
/-- the like for a struct's fields from a place on -/
def OpensF {α : Type} (P : Program) (fs : List Field) (o : Nat) (d : Kd α) (wf : α → Prop) : Prop :=
  ∀ (H : Type) (enc : TypeId × Value → H) (w : World) (base : Nat) (spare : Nat → Bool) (held : Bool) (fuel : Nat) (cs : List Value), cs.length = o + d.sz →
    (∀ f ∈ fs, ∃ x, DataW.trod enc P w base spare held fuel f.type ((cs.drop f.offset).take (P.cellsOf f.type)) = some x) → ∃ y : α, d.K w y (cs.drop o) ∧ wf y
theorem opensF_last {α : Type} {P : Program} {f : Field} {o : Nat} {d : Kd α} {wf : α → Prop} (ho : f.offset = o) (hc : P.cellsOf f.type = d.sz) (hd : Opens P f.type d wf) : OpensF P [f] o d wf := by
  intro H enc w base spare held fuel cs hl h
  obtain ⟨x, hx⟩ := h f (by simp)
  rw [ho, hc, List.take_of_length_le (by simp; omega)] at hx
  exact hd _ _ _ _ _ _ _ _ _ hx
theorem opensF_cons {α β : Type} {P : Program} {f : Field} {fs : List Field} {o : Nat} {d : Kd α} {d2 : Kd β} {wf : α → Prop} {wf2 : β → Prop} (ho : f.offset = o) (hc : P.cellsOf f.type = d.sz) (hd : Opens P f.type d wf) (hr : OpensF P fs (o + d.sz) d2 wf2) :
    OpensF P (f :: fs) o (Kd.pair d d2) (fun p => wf p.1 ∧ wf2 p.2) := by
  intro H enc w base spare held fuel cs hl h
  obtain ⟨x, hx⟩ := h f (by simp)
  rw [ho, hc] at hx
  obtain ⟨y, hy, hw⟩ := hd _ _ _ _ _ _ _ _ _ hx
  obtain ⟨z, hz, hw2⟩ := hr H enc w base spare held fuel cs (by rw [hl]; simp only [Kd.pair]; omega) (fun g hg => h g (List.mem_cons_of_mem _ hg))
  refine ⟨(y, z), ⟨(cs.drop o).take d.sz, cs.drop (o + d.sz), ?_, hy, hz⟩, hw, hw2⟩
  rw [← List.drop_drop, List.take_append_drop]
theorem opens_struct {α β : Type} {P : Program} {t : TypeId} {fs : Array Field} {d : Kd α} {wf : α → Prop} (pr : β → α) (mk : α → β) (hm : ∀ p, pr (mk p) = p) (ht : P.underlying t = some (.struct fs)) (hc : P.cellsOf t = d.sz) (hf : OpensF P fs.toList 0 d wf) :
    Opens P t (Kd.iso d pr) (fun y => wf (pr y)) := by
  intro H enc w base spare held fuel cs x h
  obtain ⟨xs, n, _, _, hl, hxs, hg⟩ := DataW.trod_struct ht h
  obtain ⟨y, hy, hw⟩ := hf H enc w base spare held n cs (by rw [hl, hc]; omega) (fun f hfm => by
    obtain ⟨i, hi⟩ := List.getElem?_of_mem hfm
    have hi' : fs[i]? = some f := by simpa using hi
    have hlt : i < fs.size := by
      rcases Nat.lt_or_ge i fs.size with h1 | h1
      · exact h1
      · rw [Array.getElem?_eq_none h1] at hi'; cases hi'
    exact ⟨xs[i]'(by omega), by rw [hg i f hi', List.getElem?_eq_getElem]⟩)
  exact ⟨mk y, by show d.K w (pr (mk y)) cs; rw [hm]; simpa using hy, by show wf (pr (mk y)); rw [hm]; exact hw⟩

/-! ### opens: our own, at this program's types -/
def wf58 (x : S58) : Prop := ((Lit.int .i64 x.f0).wf = true) ∧ ((Lit.int .i64 x.f1).wf = true) ∧ (x.f2.size ≤ maxLen)
theorem opens58 : Opens Try.prog 58 k58 wf58 := opens_struct (fun x : S58 => (x.f0, (x.f1, x.f2))) (fun p => ⟨p.1, p.2.1, p.2.2⟩) (fun _ => rfl) Try.underlying58 (by kernel_rfl) (opensF_cons rfl (by kernel_rfl) (opens_int Try.underlying3) (opensF_cons rfl (by kernel_rfl) (opens_int Try.underlying3) (opensF_last rfl (by kernel_rfl) (opens_string Try.underlying9))))

end Go.Proofs.Ytlfgkodipeofiaa.PF

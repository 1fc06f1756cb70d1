-- Written by a program of this session (wip/xprint.py over the kit's printer), out of the translation; the texts of functions that the printer does not take are this session's own.
import Derived.Test.YtlfgkodipeofiaaPEx0
import Derived.Test.YtlfgkodipeofiaaPEx2
namespace Go.Proofs.Ytlfgkodipeofiaa.PE
open Go.RowKit Go.Proofs.YtlfgkodipeofiaaW.PrintWords Go.Proofs.YtlfgkodipeofiaaW.PrintLast Go.Proofs.YtlfgkodipeofiaaW.PrintMore
attribute [local go_sem] max2_int min2_int max_two min_two max_three min_three max_four min_four   -- for this text's walks alone
set_option linter.unusedVariables false
set_option linter.unusedSimpArgs false

/-! ### impl_delta: function 57 (our own text) -/
mutual
def impl_delta.l0 : Nat → ByteArray → ByteArray → List (S59) → ByteArray → Option (List (S59))
  | 0, _, _, _, _ => none
  | k + 1, x0, x1, x5, x6 => if x1.toList = ([] : List UInt8) then (if x5.length < 4398046511104 then some (deltaOut x5 x6) else none) else (impl_block.f k x0 x1).bind fun p => (if p.2 = true then (if x5.length < 4398046511104 then impl_delta.l1 k x0 x1 (deltaOut x5 x6) p.1 4 else none) else (if 1 ≤ (x1.size : Int) then (if x6.size + (x1.extract 0 1).size ≤ 9223372036854775807 then impl_delta.l0 k x0 (x1.extract 1 x1.size) x5 (x6 ++ x1.extract 0 1) else none) else none))
def impl_delta.l1 : Nat → ByteArray → ByteArray → List (S59) → Int → Int → Option (List (S59))
  | 0, _, _, _, _, _ => none
  | k + 1, x0, x1, x5, x8, x9 => if x9 < (x1.size : Int) then (if (wrap64 (x8 + x9)) < (x0.size : Int) then (if 0 ≤ (wrap64 (x8 + x9)) then (if 0 ≤ x9 then (if (bt x0 (wrap64 (x8 + x9))) = (bt x1 x9) then impl_delta.l1 k x0 x1 x5 x8 (wrap64 (x9 + 1)) else impl_delta.j1 k x0 x1 x5 x8 x9) else none) else none) else impl_delta.j1 k x0 x1 x5 x8 x9) else impl_delta.j1 k x0 x1 x5 x8 x9
def impl_delta.j1 : Nat → ByteArray → ByteArray → List (S59) → Int → Int → Option (List (S59))
  | 0, _, _, _, _, _ => none
  | k + 1, x0, x1, x5, x8, x9 => if x5.length < 4398046511104 then (if 0 ≤ x9 then (if x9 ≤ (x1.size : Int) then impl_delta.l0 k x0 (x1.extract (x9 : Int).toNat x1.size) (x5 ++ [(⟨x8, x9, (⟨#[]⟩ : ByteArray)⟩ : S59)]) (⟨#[]⟩ : ByteArray) else none) else none) else none
end
def impl_delta.f (k : Nat) (a0 : ByteArray) (a1 : ByteArray) : Option (List (S59)) := impl_delta.l0 k a0 a1 [] (⟨#[]⟩ : ByteArray)
theorem impl_delta.mono_l : ∀ k, (∀ y0 y1 y2 y3, LeO (impl_delta.l0 k y0 y1 y2 y3) (impl_delta.l0 (k + 1) y0 y1 y2 y3)) ∧ (∀ y0 y1 y2 y3 y4, LeO (impl_delta.l1 k y0 y1 y2 y3 y4) (impl_delta.l1 (k + 1) y0 y1 y2 y3 y4)) ∧ (∀ y0 y1 y2 y3 y4, LeO (impl_delta.j1 k y0 y1 y2 y3 y4) (impl_delta.j1 (k + 1) y0 y1 y2 y3 y4))
  | 0 => ⟨fun _ _ _ _ r h => by simp [impl_delta.l0] at h, fun _ _ _ _ _ r h => by simp [impl_delta.l1] at h, fun _ _ _ _ _ r h => by simp [impl_delta.j1] at h⟩
  | k + 1 => by
    obtain ⟨ih0, ih1, ih2⟩ := impl_delta.mono_l k
    refine ⟨?_, ?_, ?_⟩
    · intro y0 y1 y2 y3
      unfold impl_delta.l0
      repeat' first
      | (with_reducible exact ih0 _ _ _ _)
      | (with_reducible exact ih1 _ _ _ _ _)
      | (with_reducible exact impl_block.mono _ _ _)
      | (with_reducible exact LeO.refl _)
      | (with_reducible exact LeO.none _)
      | (with_reducible refine LeO.ite ?_ ?_)
      | (with_reducible refine LeO.bind ?_ (fun _ => ?_))
    · intro y0 y1 y2 y3 y4
      unfold impl_delta.l1
      repeat' first
      | (with_reducible exact ih1 _ _ _ _ _)
      | (with_reducible exact ih2 _ _ _ _ _)
      | (with_reducible exact LeO.none _)
      | (with_reducible refine LeO.ite ?_ ?_)
    · intro y0 y1 y2 y3 y4
      unfold impl_delta.j1
      repeat' first
      | (with_reducible exact ih0 _ _ _ _)
      | (with_reducible exact LeO.none _)
      | (with_reducible refine LeO.ite ?_ ?_)
theorem impl_delta.mono : ∀ a0 a1 k, LeO (impl_delta.f k a0 a1) (impl_delta.f (k + 1) a0 a1) := fun a0 a1 k => (impl_delta.mono_l k).1 _ _ _ _
set_option maxHeartbeats 8000000 in
set_option maxRecDepth 100000 in
theorem impl_delta.calls (k : Nat) (a0 : ByteArray) (a1 : ByteArray) (r : List (S59)) (w : World) (h : impl_delta.f k a0 a1 = some r) :
    Calls Try.prog 57 #[.string a0, .string a1] w fun e w' => ∃ v0_ : Value, e = .returned (v0_) ∧ Kd.R k59 59 w' w.heap.size (fun _ => True) v0_ r ∧ Below w.heap.size w w' := by
  have hu59 := Try.underlying59
  have HB := Aside0.mk (Below.refl w.heap.size w)
  have H' := Aside0.mk (show impl_delta.l0 k a0 a1 [] (⟨#[]⟩ : ByteArray) = some r from h)
  clear h
  go_enter Try.func57, Try.ntmps57
  go_wp2
  have H0 := Aside0.mk (blk_alloc (blk_new w (Obj.cells #[Value.slice none 0 0] 35)) (Obj.cells #[Value.string { data := #[] }] 9))
  have H1 := Aside0.mk (show ((w.alloc (Obj.cells #[Value.slice none 0 0] 35)).alloc (Obj.cells #[Value.string { data := #[] }] 9)).heap[w.heap.size + 1]? = some (Obj.cells #[Value.string { data := #[] }] 9) from by simpa using blk_new (w.alloc (Obj.cells #[Value.slice none 0 0] 35)) (Obj.cells #[Value.string { data := #[] }] 9))
  go_loopg [1] k (fun kq v1 w' => ∃ (x1_1 : ByteArray) (x5_1 : List (S59)) (x6_1 : ByteArray) (v : Value), v1 = .string x1_1 ∧ Aside0 (impl_delta.l0 kq a0 x1_1 x5_1 x6_1 = some r) ∧ Aside0 (kq ≤ k) ∧ Aside0 (w'.heap[w.heap.size]? = some (.cells #[v] 35 (0, 0))) ∧ Aside0 (w'.heap[w.heap.size + 1]? = some (.cells #[.string x6_1] 9 (0, 0))) ∧ Aside0 (Kd.R k59 59 w' w.heap.size (fun q => q ≠ w.heap.size ∧ q ≠ w.heap.size + 1) v x5_1) ∧ Aside0 (Below w.heap.size w w'))
  case atStart => exact ⟨a1, [], ⟨#[]⟩, _, rfl, H', ⟨Nat.le_refl _⟩, H0, H1, ⟨Kd.R_nil _ _ _ _ _⟩, ⟨below_alloc (below_alloc HB.out _) _⟩⟩
  case round =>
    clear H' H0 H1 HB
    obtain ⟨x1_1, x5_1, x6_1, v, rfl, HA, HK1, H0, H1, HO, HB⟩ := hrel
    cases gk with
    | zero => exact absurd HA.out (by simp [impl_delta.l0])
    | succ k1 =>
      have H := HA.out
      clear HA
      simp only [impl_delta.l0] at H
      by_cases c1 : x1_1.toList = ([] : List UInt8)
      · rw [if_pos c1] at H
        have e1 : x1_1.toList.isEmpty = true := by simpa using c1
        have e2 : (!x1_1.toList.isEmpty) = false := by simpa using c1
        have e3 : (x1_1.toList == ([] : List UInt8)) = true := beq_iff_eq.mpr c1
        have e4 : (x1_1.toList != ([] : List UInt8)) = false := bne_eq_false_iff_eq.mpr c1
        clear c1
        by_cases c2 : x5_1.length < 4398046511104
        · rw [if_pos c2] at H
          obtain rfl := Option.some.inj H
          clear H
          have HE := Aside0.mk (fun W (hB : Below w.heap.size w W) (h0 : W.heap[w.heap.size]? = some (.cells #[v] 35 (0, 0))) (h1 : W.heap[w.heap.size + 1]? = some (.cells #[.string x6_1] 9 (0, 0))) (ho : Kd.R k59 59 W w.heap.size (fun q => q ≠ w.heap.size ∧ q ≠ w.heap.size + 1) v x5_1) => deltaEnd_calls w.heap.size (w.heap.size + 1) v x5_1 x6_1 w W hB (Nat.le_refl _) (Nat.le_succ _) (by omega) h0 h1 ho c2)
          go_wp2_with fail
          refine (HE.out _ (by first | exact HB.out | exact pw_below_drewN HB.out _) H0.out H1.out (by first | exact HO.out | exact Kd.R_drewN HO.out _)).mono ?_
          rintro e w' ⟨rfl, v', h0', h1', ho', hb'⟩
          have hx0 : w'.cell? ⟨w.heap.size, 0, none⟩ = some v' := (blk_cell h0' 0).trans rfl
          obtain ⟨Av, cv, rfl⟩ := Kd.R_slice ho'
          go_wp2
          go_ret
          exact ⟨_, rfl, Kd.R_mono ho' (fun _ _ => trivial), hb'⟩
        · rw [if_neg c2] at H
          exact absurd H (by simp)
      · rw [if_neg c1] at H
        have e1 : x1_1.toList.isEmpty = false := by simpa using c1
        have e2 : (!x1_1.toList.isEmpty) = true := by simpa using c1
        have e3 : (x1_1.toList == ([] : List UInt8)) = false := beq_eq_false_iff_ne.mpr c1
        have e4 : (x1_1.toList != ([] : List UInt8)) = true := bne_iff_ne.mpr c1
        clear c1
        obtain ⟨⟨t1, t2⟩, hb, H⟩ := Option.bind_eq_some_iff.1 H
        have HC := Aside0.mk (fun W => impl_block.calls k1 a0 x1_1 t1 t2 W hb)
        clear hb
        dsimp only at H
        cases t2 with
        | false =>
          rw [if_neg (by decide)] at H
          by_cases c3 : 1 ≤ (x1_1.size : Int)
          · rw [if_pos c3] at H
            by_cases c4 : x6_1.size + (x1_1.extract 0 1).size ≤ 9223372036854775807
            · rw [if_pos c4] at H
              have H' := Aside0.mk H
              clear H
              have hx1 : wr.cell? ⟨w.heap.size + 1, 0, none⟩ = some (.string x6_1) := (blk_cell H1.out 0).trans rfl
              have hf1 : wr.frozen? ⟨w.heap.size + 1, 0, none⟩ = false := blk_frozen H1.out 0
              have c3b0 := eq_true c3
              have c3b1 : decide (1 ≤ (x1_1.size : Int)) = true := decide_eq_true c3
              have c3n : 1 ≤ x1_1.size := by omega
              have c3n2 := eq_true c3n
              have c4b0 := eq_true c4
              have c4b2 : (9223372036854775807 < x6_1.size + (x1_1.extract 0 1).size) = False := eq_false (Nat.not_lt.2 c4)
              clear hx1 hf1
              go_wp2_with fail
              refine (HC.out _).mono ?_
              rintro e w' ⟨rfl, ⟨nd, rfl⟩⟩
              have H0' := Aside0.mk (blk_drewN H0.out nd)
              have H1' := Aside0.mk (blk_drewN H1.out nd)
              have HO' := Aside0.mk (Kd.R_drewN HO.out nd)
              have HB' := Aside0.mk (pw_below_drewN HB.out nd)
              clear H0 H1 HO HB
              generalize wr.drewN nd = W at H0' H1' HO' HB' ⊢
              have hx1 : W.cell? ⟨w.heap.size + 1, 0, none⟩ = some (.string x6_1) := (blk_cell H1'.out 0).trans rfl
              have hf1 : W.frozen? ⟨w.heap.size + 1, 0, none⟩ = false := blk_frozen H1'.out 0
              go_wp2
              go_region
              go_wp2
              go_roundg k1
              case measure => have := HK1.out; omega
              case rel => exact ⟨_, x5_1, x6_1 ++ x1_1.extract 0 1, v, rfl, H', ⟨by have := HK1.out; omega⟩, ⟨blk_drew (blk_far H0'.out (by simp) _)⟩, ⟨blk_drew ((blk_set H1'.out 0 _).trans rfl)⟩, ⟨Kd.R_drew (Kd.R_far HO'.out (p := ⟨w.heap.size + 1, 0, none⟩) (fun _ hk => hk.2) _)⟩, ⟨below_drew (below_set HB'.out (Nat.le_succ _))⟩⟩
            · rw [if_neg c4] at H
              exact absurd H (by simp)
          · rw [if_neg c3] at H
            exact absurd H (by simp)
        | true =>
          rw [if_pos rfl] at H
          by_cases c2 : x5_1.length < 4398046511104
          · rw [if_pos c2] at H
            have HE := Aside0.mk (fun W (hB : Below w.heap.size w W) (h0 : W.heap[w.heap.size]? = some (.cells #[v] 35 (0, 0))) (h1 : W.heap[w.heap.size + 1]? = some (.cells #[.string x6_1] 9 (0, 0))) (ho : Kd.R k59 59 W w.heap.size (fun q => q ≠ w.heap.size ∧ q ≠ w.heap.size + 1) v x5_1) => deltaEnd_calls w.heap.size (w.heap.size + 1) v x5_1 x6_1 w W hB (Nat.le_refl _) (Nat.le_succ _) (by omega) h0 h1 ho c2)
            have H' := Aside0.mk H
            clear H c2
            go_wp2_with fail
            refine (HC.out _).mono ?_
            rintro e w' ⟨rfl, ⟨nd, rfl⟩⟩
            go_wp2_with fail
            refine (HE.out _ (pw_below_drewN HB.out nd) (blk_drewN H0.out nd) (blk_drewN H1.out nd) (Kd.R_drewN HO.out nd)).mono ?_
            rintro e w2 ⟨rfl, v2, h0', h1', ho', hb'⟩
            clear HE HC H0 H1 HO HB
            have H0 := Aside0.mk h0'
            have H1 := Aside0.mk h1'
            have HO := Aside0.mk ho'
            have HB := Aside0.mk hb'
            clear h0' h1' ho' hb' e1 e2 e3 e4
            obtain ⟨x5_2, hx5⟩ : ∃ z, z = deltaOut x5_1 x6_1 := ⟨_, rfl⟩
            rw [← hx5] at H' HO
            clear hx5
            go_wp2
            go_loopg [10] k1 (fun kq v10 w' => ∃ (x9_1 : Int), v10 = .int .i64 x9_1 ∧ Aside0 (impl_delta.l1 kq a0 x1_1 x5_2 t1 x9_1 = some r) ∧ Aside0 (kq ≤ k1) ∧ Aside0 (w'.heap[w.heap.size]? = some (.cells #[v2] 35 (0, 0))) ∧ Aside0 (w'.heap[w.heap.size + 1]? = some (.cells #[.string ⟨#[]⟩] 9 (0, 0))) ∧ Aside0 (Kd.R k59 59 w' w.heap.size (fun q => q ≠ w.heap.size ∧ q ≠ w.heap.size + 1) v2 x5_2) ∧ Aside0 (Below w.heap.size w w'))
            case atStart => exact ⟨4, rfl, H', ⟨Nat.le_refl _⟩, H0, H1, HO, HB⟩
            case round =>
              clear H' H0 H1 HO HB
              obtain ⟨x9_1, rfl, HA, HK2, H0, H1, HO, HB⟩ := hrel
              cases gk with
              | zero => exact absurd HA.out (by simp [impl_delta.l1])
              | succ k2 =>
                have H := HA.out
                clear HA
                simp only [impl_delta.l1] at H
                by_cases d1 : x9_1 < (x1_1.size : Int)
                · rw [if_pos d1] at H
                  have d1b0 : decide (x9_1 < (x1_1.size : Int)) = true := decide_eq_true d1
                  obtain ⟨ji, hji⟩ : ∃ j : Int, wrap64 (t1 + x9_1) = j := ⟨_, rfl⟩
                  rw [hji] at H
                  have hjiw : (IntKind.i64.wrap (t1 + x9_1)) = ji := (i64_w _).trans hji
                  by_cases d2 : ji < (a0.size : Int)
                  · rw [if_pos d2] at H
                    have d2b0 : decide (ji < (a0.size : Int)) = true := decide_eq_true d2
                    by_cases d3 : 0 ≤ ji
                    · rw [if_pos d3] at H
                      by_cases d4 : 0 ≤ x9_1
                      · rw [if_pos d4] at H
                        have p23 := eq_true d3
                        have q23 := eq_true d2
                        have hx23 := bt_at a0 ji
                        have p26 := eq_true d4
                        have q26 := eq_true d1
                        have hx26 := bt_at x1_1 x9_1
                        clear d1 d2 d3 d4
                        by_cases d5 : (bt a0 ji) = (bt x1_1 x9_1)
                        · rw [if_pos d5] at H
                          have d5b0 : ((bt a0 ji) == (bt x1_1 x9_1)) = true := beq_iff_eq.mpr d5
                          have d5b1 : ((bt a0 ji) != (bt x1_1 x9_1)) = false := bne_eq_false_iff_eq.mpr d5
                          clear d5
                          have H' := Aside0.mk H
                          clear H
                          go_wp2
                          repeat (go_quiet (fail); try go_wp2)
                          go_roundg k2
                          case measure => have := HK2.out; omega
                          case rel => exact ⟨wrap64 (x9_1 + 1), by first | rfl | (simp; done), H', ⟨by have := HK2.out; omega⟩, ⟨by first | exact H0.out | exact blk_drewN H0.out _⟩, ⟨by first | exact H1.out | exact blk_drewN H1.out _⟩, ⟨by first | exact HO.out | exact Kd.R_drewN HO.out _⟩, ⟨by first | exact HB.out | exact pw_below_drewN HB.out _⟩⟩
                        · rw [if_neg d5] at H
                          have d5b0 : ((bt a0 ji) == (bt x1_1 x9_1)) = false := beq_eq_false_iff_ne.mpr d5
                          have d5b1 : ((bt a0 ji) != (bt x1_1 x9_1)) = true := bne_iff_ne.mpr d5
                          clear d5
                          cases k2 with
                          | zero => exact absurd H (by simp [impl_delta.j1])
                          | succ k3 =>
                            simp only [impl_delta.j1] at H
                            by_cases f1 : x5_2.length < 4398046511104
                            · rw [if_pos f1] at H
                              by_cases f2 : 0 ≤ x9_1
                              · rw [if_pos f2] at H
                                by_cases f3 : x9_1 ≤ (x1_1.size : Int)
                                · rw [if_pos f3] at H
                                  have HL := Aside0.mk f1
                                  clear f1
                                  have f2b := eq_true f2
                                  have f3b := eq_true f3
                                  obtain ⟨y, hy⟩ : ∃ y : List (S59), y = x5_2 ++ [(⟨t1, x9_1, (⟨#[]⟩ : ByteArray)⟩ : S59)] := ⟨_, rfl⟩
                                  rw [← hy] at H
                                  have HY := Aside0.mk hy
                                  clear hy
                                  have H' := Aside0.mk H
                                  clear H
                                  go_wp2
                                  repeat (go_quiet (fail); try go_wp2)
                                  have H0' := Aside0.mk (blk_drewN H0.out nq)
                                  have H1' := Aside0.mk (blk_drewN H1.out nq)
                                  have HO' := Aside0.mk (Kd.R_drewN HO.out nq)
                                  have HB' := Aside0.mk (pw_below_drewN HB.out nq)
                                  clear H0 H1 HO HB
                                  generalize wr.drewN nq = W at H0' H1' HO' HB' ⊢
                                  have hx0 : W.cell? ⟨w.heap.size, 0, none⟩ = some v2 := (blk_cell H0'.out 0).trans rfl
                                  have hf0 : W.frozen? ⟨w.heap.size, 0, none⟩ = false := blk_frozen H0'.out 0
                                  have hxa : (W.alloc (Obj.cells #[Value.int IntKind.i64 t1, Value.int IntKind.i64 x9_1, Value.string { data := #[] }] 59)).cell? ⟨w.heap.size, 0, none⟩ = some v2 := (blk_cell (blk_alloc H0'.out _) 0).trans rfl
                                  go_region_law (show (if Region.wanted _ _ = true then Oper.wp Try.prog _ _ (World.alloc (World.drew W) (Obj.cells #[Value.int IntKind.i64 t1, Value.int IntKind.i64 x9_1, Value.string { data := #[] }] 59)) _ _ else _); refine Kd.R_append_step k59 (w0 := w) w.heap.size (by rfl) (.tmp 55) (.tmp 59) 35 59 (.agg #[(.int .i64 0), (.int .i64 0), (.string ⟨#[]⟩)]) 32 rfl Try.underlying35 info59 rfl (by decide) (by omega) v2 x5_2 (⟨t1, x9_1, (⟨#[]⟩ : ByteArray)⟩ : S59) [.int .i64 t1, .int .i64 x9_1, .string ⟨#[]⟩] (fun q => q ≠ w.heap.size ∧ q ≠ w.heap.size + 1) (fun _ => False) rfl rfl ?aP (fun _ hk => hk.elim) ?aF ?aO ?aB ?aS ?aL ?_; (case aP => exact k59_mkM _ _ _ (⟨t1, x9_1, (⟨#[]⟩ : ByteArray)⟩ : S59)); (case aB => exact below_drew HB'.out); (case aF => exact (fun q hq => by have g0 := blk_lt H0'.out; have g1 := blk_lt H1'.out; have hk' : W.heap.size ≤ q := (by first | exact hq | (simp at hq; omega)); exact ⟨by omega, by omega⟩)); (case aO => exact Kd.R_drew HO'.out); (case aS => exact (below_drew HB'.out).size); (case aL => have := HL.out; omega); intro v3 w3 ho hb hg hat; rw [← HY.out] at ho; obtain ⟨Av, cv, rfl⟩ := Kd.R_slice ho; have HO3 := Aside0.mk ho; have HB3 := Aside0.mk hb; have H03 := Aside0.mk (blk_grown (blk_drew H0'.out) hg (Kd.R_away HO'.out (fun q hq => hq.1))); have H13 := Aside0.mk (blk_grown (blk_drew H1'.out) hg (Kd.R_away HO'.out (fun q hq => hq.2))); clear ho hb hg hat hx0 hf0 hxa H0' H1' HO' HB'; have hx0 : w3.cell? ⟨w.heap.size, 0, none⟩ = some v2 := (blk_cell H03.out 0).trans rfl; have hf0 : w3.frozen? ⟨w.heap.size, 0, none⟩ = false := blk_frozen H03.out 0)
                                  all_goals
                                    go_wp2
                                    go_roundg k3
                                    case measure => have := HK2.out; omega
                                    case rel => exact ⟨_, y, ⟨#[]⟩, .slice Av y.length cv, rfl, H', ⟨by have := HK1.out; have := HK2.out; omega⟩, ⟨(blk_set H03.out 0 _).trans rfl⟩, ⟨blk_far H13.out (p := ⟨w.heap.size, 0, none⟩) (by simp) _⟩, ⟨Kd.R_far HO3.out (p := ⟨w.heap.size, 0, none⟩) (fun _ hk => hk.1) _⟩, ⟨below_set HB3.out (Nat.le_refl _)⟩⟩
                                · rw [if_neg f3] at H
                                  exact absurd H (by simp)
                              · rw [if_neg f2] at H
                                exact absurd H (by simp)
                            · rw [if_neg f1] at H
                              exact absurd H (by simp)
                      · rw [if_neg d4] at H
                        exact absurd H (by simp)
                    · rw [if_neg d3] at H
                      exact absurd H (by simp)
                  · rw [if_neg d2] at H
                    have d2b0 : decide (ji < (a0.size : Int)) = false := decide_eq_false d2
                    clear d1 d2
                    cases k2 with
                    | zero => exact absurd H (by simp [impl_delta.j1])
                    | succ k3 =>
                      simp only [impl_delta.j1] at H
                      by_cases f1 : x5_2.length < 4398046511104
                      · rw [if_pos f1] at H
                        by_cases f2 : 0 ≤ x9_1
                        · rw [if_pos f2] at H
                          by_cases f3 : x9_1 ≤ (x1_1.size : Int)
                          · rw [if_pos f3] at H
                            have HL := Aside0.mk f1
                            clear f1
                            have f2b := eq_true f2
                            have f3b := eq_true f3
                            obtain ⟨y, hy⟩ : ∃ y : List (S59), y = x5_2 ++ [(⟨t1, x9_1, (⟨#[]⟩ : ByteArray)⟩ : S59)] := ⟨_, rfl⟩
                            rw [← hy] at H
                            have HY := Aside0.mk hy
                            clear hy
                            have H' := Aside0.mk H
                            clear H
                            go_wp2
                            repeat (go_quiet (fail); try go_wp2)
                            have H0' := Aside0.mk (blk_drewN H0.out nq)
                            have H1' := Aside0.mk (blk_drewN H1.out nq)
                            have HO' := Aside0.mk (Kd.R_drewN HO.out nq)
                            have HB' := Aside0.mk (pw_below_drewN HB.out nq)
                            clear H0 H1 HO HB
                            generalize wr.drewN nq = W at H0' H1' HO' HB' ⊢
                            have hx0 : W.cell? ⟨w.heap.size, 0, none⟩ = some v2 := (blk_cell H0'.out 0).trans rfl
                            have hf0 : W.frozen? ⟨w.heap.size, 0, none⟩ = false := blk_frozen H0'.out 0
                            have hxa : (W.alloc (Obj.cells #[Value.int IntKind.i64 t1, Value.int IntKind.i64 x9_1, Value.string { data := #[] }] 59)).cell? ⟨w.heap.size, 0, none⟩ = some v2 := (blk_cell (blk_alloc H0'.out _) 0).trans rfl
                            go_region_law (show (if Region.wanted _ _ = true then Oper.wp Try.prog _ _ (World.alloc (World.drew W) (Obj.cells #[Value.int IntKind.i64 t1, Value.int IntKind.i64 x9_1, Value.string { data := #[] }] 59)) _ _ else _); refine Kd.R_append_step k59 (w0 := w) w.heap.size (by rfl) (.tmp 55) (.tmp 59) 35 59 (.agg #[(.int .i64 0), (.int .i64 0), (.string ⟨#[]⟩)]) 32 rfl Try.underlying35 info59 rfl (by decide) (by omega) v2 x5_2 (⟨t1, x9_1, (⟨#[]⟩ : ByteArray)⟩ : S59) [.int .i64 t1, .int .i64 x9_1, .string ⟨#[]⟩] (fun q => q ≠ w.heap.size ∧ q ≠ w.heap.size + 1) (fun _ => False) rfl rfl ?aP (fun _ hk => hk.elim) ?aF ?aO ?aB ?aS ?aL ?_; (case aP => exact k59_mkM _ _ _ (⟨t1, x9_1, (⟨#[]⟩ : ByteArray)⟩ : S59)); (case aB => exact below_drew HB'.out); (case aF => exact (fun q hq => by have g0 := blk_lt H0'.out; have g1 := blk_lt H1'.out; have hk' : W.heap.size ≤ q := (by first | exact hq | (simp at hq; omega)); exact ⟨by omega, by omega⟩)); (case aO => exact Kd.R_drew HO'.out); (case aS => exact (below_drew HB'.out).size); (case aL => have := HL.out; omega); intro v3 w3 ho hb hg hat; rw [← HY.out] at ho; obtain ⟨Av, cv, rfl⟩ := Kd.R_slice ho; have HO3 := Aside0.mk ho; have HB3 := Aside0.mk hb; have H03 := Aside0.mk (blk_grown (blk_drew H0'.out) hg (Kd.R_away HO'.out (fun q hq => hq.1))); have H13 := Aside0.mk (blk_grown (blk_drew H1'.out) hg (Kd.R_away HO'.out (fun q hq => hq.2))); clear ho hb hg hat hx0 hf0 hxa H0' H1' HO' HB'; have hx0 : w3.cell? ⟨w.heap.size, 0, none⟩ = some v2 := (blk_cell H03.out 0).trans rfl; have hf0 : w3.frozen? ⟨w.heap.size, 0, none⟩ = false := blk_frozen H03.out 0)
                            all_goals
                              go_wp2
                              go_roundg k3
                              case measure => have := HK2.out; omega
                              case rel => exact ⟨_, y, ⟨#[]⟩, .slice Av y.length cv, rfl, H', ⟨by have := HK1.out; have := HK2.out; omega⟩, ⟨(blk_set H03.out 0 _).trans rfl⟩, ⟨blk_far H13.out (p := ⟨w.heap.size, 0, none⟩) (by simp) _⟩, ⟨Kd.R_far HO3.out (p := ⟨w.heap.size, 0, none⟩) (fun _ hk => hk.1) _⟩, ⟨below_set HB3.out (Nat.le_refl _)⟩⟩
                          · rw [if_neg f3] at H
                            exact absurd H (by simp)
                        · rw [if_neg f2] at H
                          exact absurd H (by simp)
                      · rw [if_neg f1] at H
                        exact absurd H (by simp)
                · rw [if_neg d1] at H
                  have d1b0 : decide (x9_1 < (x1_1.size : Int)) = false := decide_eq_false d1
                  clear d1
                  cases k2 with
                  | zero => exact absurd H (by simp [impl_delta.j1])
                  | succ k3 =>
                    simp only [impl_delta.j1] at H
                    by_cases f1 : x5_2.length < 4398046511104
                    · rw [if_pos f1] at H
                      by_cases f2 : 0 ≤ x9_1
                      · rw [if_pos f2] at H
                        by_cases f3 : x9_1 ≤ (x1_1.size : Int)
                        · rw [if_pos f3] at H
                          have HL := Aside0.mk f1
                          clear f1
                          have f2b := eq_true f2
                          have f3b := eq_true f3
                          obtain ⟨y, hy⟩ : ∃ y : List (S59), y = x5_2 ++ [(⟨t1, x9_1, (⟨#[]⟩ : ByteArray)⟩ : S59)] := ⟨_, rfl⟩
                          rw [← hy] at H
                          have HY := Aside0.mk hy
                          clear hy
                          have H' := Aside0.mk H
                          clear H
                          go_wp2
                          repeat (go_quiet (fail); try go_wp2)
                          have H0' := Aside0.mk (blk_drewN H0.out nq)
                          have H1' := Aside0.mk (blk_drewN H1.out nq)
                          have HO' := Aside0.mk (Kd.R_drewN HO.out nq)
                          have HB' := Aside0.mk (pw_below_drewN HB.out nq)
                          clear H0 H1 HO HB
                          generalize wr.drewN nq = W at H0' H1' HO' HB' ⊢
                          have hx0 : W.cell? ⟨w.heap.size, 0, none⟩ = some v2 := (blk_cell H0'.out 0).trans rfl
                          have hf0 : W.frozen? ⟨w.heap.size, 0, none⟩ = false := blk_frozen H0'.out 0
                          have hxa : (W.alloc (Obj.cells #[Value.int IntKind.i64 t1, Value.int IntKind.i64 x9_1, Value.string { data := #[] }] 59)).cell? ⟨w.heap.size, 0, none⟩ = some v2 := (blk_cell (blk_alloc H0'.out _) 0).trans rfl
                          go_region_law (show (if Region.wanted _ _ = true then Oper.wp Try.prog _ _ (World.alloc (World.drew W) (Obj.cells #[Value.int IntKind.i64 t1, Value.int IntKind.i64 x9_1, Value.string { data := #[] }] 59)) _ _ else _); refine Kd.R_append_step k59 (w0 := w) w.heap.size (by rfl) (.tmp 55) (.tmp 59) 35 59 (.agg #[(.int .i64 0), (.int .i64 0), (.string ⟨#[]⟩)]) 32 rfl Try.underlying35 info59 rfl (by decide) (by omega) v2 x5_2 (⟨t1, x9_1, (⟨#[]⟩ : ByteArray)⟩ : S59) [.int .i64 t1, .int .i64 x9_1, .string ⟨#[]⟩] (fun q => q ≠ w.heap.size ∧ q ≠ w.heap.size + 1) (fun _ => False) rfl rfl ?aP (fun _ hk => hk.elim) ?aF ?aO ?aB ?aS ?aL ?_; (case aP => exact k59_mkM _ _ _ (⟨t1, x9_1, (⟨#[]⟩ : ByteArray)⟩ : S59)); (case aB => exact below_drew HB'.out); (case aF => exact (fun q hq => by have g0 := blk_lt H0'.out; have g1 := blk_lt H1'.out; have hk' : W.heap.size ≤ q := (by first | exact hq | (simp at hq; omega)); exact ⟨by omega, by omega⟩)); (case aO => exact Kd.R_drew HO'.out); (case aS => exact (below_drew HB'.out).size); (case aL => have := HL.out; omega); intro v3 w3 ho hb hg hat; rw [← HY.out] at ho; obtain ⟨Av, cv, rfl⟩ := Kd.R_slice ho; have HO3 := Aside0.mk ho; have HB3 := Aside0.mk hb; have H03 := Aside0.mk (blk_grown (blk_drew H0'.out) hg (Kd.R_away HO'.out (fun q hq => hq.1))); have H13 := Aside0.mk (blk_grown (blk_drew H1'.out) hg (Kd.R_away HO'.out (fun q hq => hq.2))); clear ho hb hg hat hx0 hf0 hxa H0' H1' HO' HB'; have hx0 : w3.cell? ⟨w.heap.size, 0, none⟩ = some v2 := (blk_cell H03.out 0).trans rfl; have hf0 : w3.frozen? ⟨w.heap.size, 0, none⟩ = false := blk_frozen H03.out 0)
                          all_goals
                            go_wp2
                            go_roundg k3
                            case measure => have := HK2.out; omega
                            case rel => exact ⟨_, y, ⟨#[]⟩, .slice Av y.length cv, rfl, H', ⟨by have := HK1.out; have := HK2.out; omega⟩, ⟨(blk_set H03.out 0 _).trans rfl⟩, ⟨blk_far H13.out (p := ⟨w.heap.size, 0, none⟩) (by simp) _⟩, ⟨Kd.R_far HO3.out (p := ⟨w.heap.size, 0, none⟩) (fun _ hk => hk.1) _⟩, ⟨below_set HB3.out (Nat.le_refl _)⟩⟩
                        · rw [if_neg f3] at H
                          exact absurd H (by simp)
                      · rw [if_neg f2] at H
                        exact absurd H (by simp)
                    · rw [if_neg f1] at H
                      exact absurd H (by simp)
          · rw [if_neg c2] at H
            exact absurd H (by simp)

/-! ### impl_DeltaOf: function 32 -/
def impl_DeltaOf.f (k : Nat) (a0 : ByteArray) (a1 : ByteArray) : Option ((List (S59)) × Bool) := (impl_isShort.f a0).bind fun t127 => (if t127 = true then ((impl_isShort.f a1).bind fun t128 => (if t128 = true then ((impl_delta.f k a0 a1).bind fun t129 => (some (t129, true))) else (some (([] : List (S59)), false)))) else (some (([] : List (S59)), false)))
theorem impl_DeltaOf.mono : ∀ a0 a1 k, LeO (impl_DeltaOf.f k a0 a1) (impl_DeltaOf.f (k + 1) a0 a1) := by
  intro a0 a1 k
  unfold impl_DeltaOf.f
  repeat' first
      | (with_reducible exact impl_delta.mono _ _ _)
      | (with_reducible exact LeO.refl _)
      | (with_reducible exact LeO.none _)
      | (with_reducible refine LeO.ite ?_ ?_)
      | (with_reducible refine LeO.bind ?_ (fun _ => ?_))
      | exact impl_delta.mono _ _ _
      | exact LeO.none _
      | refine LeO.ite ?_ ?_
      | refine LeO.bind ?_ (fun _ => ?_)
set_option maxHeartbeats 8000000 in
set_option maxRecDepth 100000 in
theorem impl_DeltaOf.calls (k : Nat) (a0 : ByteArray) (a1 : ByteArray) (r1 : List (S59)) (r2 : Bool) (w : World) (h : impl_DeltaOf.f k a0 a1 = some (r1, r2)) :
    Calls Try.prog 32 #[.string a0, .string a1] w fun e w' => ∃ v0_ : Value, e = .returned (.tuple #[v0_, .bool r2]) ∧ Kd.R k59 59 w' w.heap.size (fun _ => True) v0_ r1 ∧ Below w.heap.size w w' := by
  have HB := Aside0.mk (Below.refl w.heap.size w)
  have H : ((impl_isShort.f a0).bind fun t127 => (if t127 = true then ((impl_isShort.f a1).bind fun t128 => (if t128 = true then ((impl_delta.f k a0 a1).bind fun t129 => (some (t129, true))) else (some (([] : List (S59)), false)))) else (some (([] : List (S59)), false)))) = some (r1, r2) := h
  clear h
  replace H := Option.bind_eq_some_iff.mp H
  obtain ⟨t127, A30, H⟩ := H
  replace H : (if t127 = true then ((impl_isShort.f a1).bind fun t128 => (if t128 = true then ((impl_delta.f k a0 a1).bind fun t129 => (some (t129, true))) else (some (([] : List (S59)), false)))) else (some (([] : List (S59)), false))) = some (r1, r2) := H
  have A3 := Aside0.mk A30
  clear A30
  by_cases c4 : t127 = true
  · subst c4
    have H1 : ((impl_isShort.f a1).bind fun t128 => (if t128 = true then ((impl_delta.f k a0 a1).bind fun t129 => (some (t129, true))) else (some (([] : List (S59)), false)))) = some (r1, r2) := by rw [if_pos rfl] at H; exact H
    clear H
    have H := H1
    clear H1
    replace H := Option.bind_eq_some_iff.mp H
    obtain ⟨t128, A50, H⟩ := H
    replace H : (if t128 = true then ((impl_delta.f k a0 a1).bind fun t129 => (some (t129, true))) else (some (([] : List (S59)), false))) = some (r1, r2) := H
    have A5 := Aside0.mk A50
    clear A50
    by_cases c6 : t128 = true
    · subst c6
      have H1 : ((impl_delta.f k a0 a1).bind fun t129 => (some (t129, true))) = some (r1, r2) := by rw [if_pos rfl] at H; exact H
      clear H
      have H := H1
      clear H1
      replace H := Option.bind_eq_some_iff.mp H
      obtain ⟨t129, A70, H⟩ := H
      replace H : (some (t129, true)) = some (r1, r2) := H
      have A7 := Aside0.mk A70
      clear A70
      simp only [Option.some.injEq, Prod.mk.injEq] at H
      obtain ⟨rfl, rfl⟩ := H
      go_enter Try.func32, Try.ntmps32
      go_wp2_with (first | ((with_reducible refine gate_callee (f := 42) rfl ?_); refine goesL_ (some 7) rfl rfl Try.func42 (by kernel_rfl) rfl #[.string a0] rfl (by (try simp only [List.map_toArray, List.map_cons, List.map_nil]); first | done | rfl | (simp only [List.length_drop, List.length_take]; rfl)) ?_; (with_reducible refine (impl_isShort.calls a0 true _ A3.out).mono ?_); rintro e w' ⟨rfl, ⟨nd, rfl⟩⟩; refine ⟨_, rfl, ?_⟩) | (go_at_call 42; (with_reducible refine (impl_isShort.calls a1 true _ A5.out).mono ?_); rintro e w' ⟨rfl, ⟨nd, rfl⟩⟩) | ((with_reducible refine gate_callee (f := 57) rfl ?_); refine goesL_ (some 16) rfl rfl Try.func57 (by kernel_rfl) rfl #[.string a0, .string a1] rfl (by (try simp only [List.map_toArray, List.map_cons, List.map_nil]); first | done | rfl | (simp only [List.length_drop, List.length_take]; rfl)) ?_; (with_reducible refine (impl_delta.calls k a0 a1 t129 _ A7.out).mono ?_); rintro e w8 ⟨v130, rfl, ho0, hb⟩; refine ⟨_, rfl, ?_⟩; have n0_ := Aside0.mk (Kd.R_lower ho0 (below_size (by repeat (first | (with_reducible first | exact HB.out | apply below_alloc | apply pw_below_drewN | apply below_drew1) | exact HB.out)))); have n1_ := Aside0.mk (below_step (by repeat (first | (with_reducible first | exact HB.out | apply below_alloc | apply pw_below_drewN | apply below_drew1) | exact HB.out)) hb); clear HB; have HO131 := n0_; have HB := n1_; clear n0_ n1_; (try clear hb); (try clear hb2); (try clear hk); (try clear hi); (try clear ho0)))
      go_ret2
      exact ⟨_, by first | rfl | (simp [errW_none, errW_some] <;> rfl) | (simp [*, errW_none, errW_some] <;> rfl), by (with_reducible repeat (first | apply Kd.R_alloc | apply Kd.R_drewN | apply Kd.R_drew)); exact HO131.out, by repeat (first | (with_reducible first | exact HB.out | apply below_alloc | apply pw_below_drewN | apply below_drew1) | exact HB.out)⟩
    · replace c6 := Bool.eq_false_iff.mpr c6
      subst c6
      have H1 : (some (([] : List (S59)), false)) = some (r1, r2) := by rw [if_neg (show ¬ (false = true) by decide)] at H; exact H
      clear H
      have H := H1
      clear H1
      simp only [Option.some.injEq, Prod.mk.injEq] at H
      obtain ⟨rfl, rfl⟩ := H
      go_enter Try.func32, Try.ntmps32
      go_wp2_with (first | ((with_reducible refine gate_callee (f := 42) rfl ?_); refine goesL_ (some 7) rfl rfl Try.func42 (by kernel_rfl) rfl #[.string a0] rfl (by (try simp only [List.map_toArray, List.map_cons, List.map_nil]); first | done | rfl | (simp only [List.length_drop, List.length_take]; rfl)) ?_; (with_reducible refine (impl_isShort.calls a0 true _ A3.out).mono ?_); rintro e w' ⟨rfl, ⟨nd, rfl⟩⟩; refine ⟨_, rfl, ?_⟩) | (go_at_call 42; (with_reducible refine (impl_isShort.calls a1 false _ A5.out).mono ?_); rintro e w' ⟨rfl, ⟨nd, rfl⟩⟩))
      go_ret2
      exact ⟨_, by first | rfl | (simp [errW_none, errW_some] <;> rfl) | (simp [*, errW_none, errW_some] <;> rfl), by first | exact Kd.R_nil _ _ _ _ _ | exact Kd.N_nil _ _ _ _ _ | exact Kd.V_nil _ _ _ _ _ | exact Kd.Q_nil _ _ _ _ _ | exact Kd.S_nil _ _ _ _ _, by repeat (first | (with_reducible first | exact HB.out | apply below_alloc | apply pw_below_drewN | apply below_drew1) | exact HB.out)⟩
  · replace c4 := Bool.eq_false_iff.mpr c4
    subst c4
    have H1 : (some (([] : List (S59)), false)) = some (r1, r2) := by rw [if_neg (show ¬ (false = true) by decide)] at H; exact H
    clear H
    have H := H1
    clear H1
    simp only [Option.some.injEq, Prod.mk.injEq] at H
    obtain ⟨rfl, rfl⟩ := H
    go_enter Try.func32, Try.ntmps32
    go_wp2_with (first | ((with_reducible refine gate_callee (f := 42) rfl ?_); refine goesL_ (some 7) rfl rfl Try.func42 (by kernel_rfl) rfl #[.string a0] rfl (by (try simp only [List.map_toArray, List.map_cons, List.map_nil]); first | done | rfl | (simp only [List.length_drop, List.length_take]; rfl)) ?_; (with_reducible refine (impl_isShort.calls a0 false _ A3.out).mono ?_); rintro e w' ⟨rfl, ⟨nd, rfl⟩⟩; refine ⟨_, rfl, ?_⟩))
    go_ret2
    exact ⟨_, by first | rfl | (simp [errW_none, errW_some] <;> rfl) | (simp [*, errW_none, errW_some] <;> rfl), by first | exact Kd.R_nil _ _ _ _ _ | exact Kd.N_nil _ _ _ _ _ | exact Kd.V_nil _ _ _ _ _ | exact Kd.Q_nil _ _ _ _ _ | exact Kd.S_nil _ _ _ _ _, by repeat (first | (with_reducible first | exact HB.out | apply below_alloc | apply pw_below_drewN | apply below_drew1) | exact HB.out)⟩

/-! ### laws_markText: function 58 -/
def laws_markText.l0 : Nat → Int → ByteArray → Option (ByteArray)
  | 0, _, _ => none
  | k + 1, x0, x3 => if x0 > 0 then ((some (([(wrap64 (48 + (Int.tmod x0 10))) % 256] : List Int) : List Int)).bind fun y132 => (if (strOfNums y132).size + x3.size ≤ 9223372036854775807 then (laws_markText.l0 k (wrap64 (Int.tdiv x0 10)) ((strOfNums y132) ++ x3)) else (none))) else (if 1 + x3.size ≤ 9223372036854775807 then (some ((⟨#[109]⟩ : ByteArray) ++ x3)) else (none))
def laws_markText.f (k : Nat) (a0 : Int) : Option (ByteArray) := if a0 ≤ 0 then (some (⟨#[109, 48]⟩ : ByteArray)) else (laws_markText.l0 k a0 (⟨#[]⟩ : ByteArray))
theorem laws_markText.mono_l : ∀ k, (∀ y0 y1, LeO (laws_markText.l0 k y0 y1) (laws_markText.l0 (k + 1) y0 y1))
  | 0 => fun _ _ r h => by simp [laws_markText.l0] at h
  | k + 1 => by
    have ih0 := laws_markText.mono_l k
    · intro y0 y1
      unfold laws_markText.l0
      repeat' first
      | (with_reducible exact ih0 _ _)
      | (with_reducible exact LeO.refl _)
      | (with_reducible exact LeO.none _)
      | (with_reducible refine LeO.ite ?_ ?_)
      | (with_reducible refine LeO.bind ?_ (fun _ => ?_))
      | exact ih0 _ _
      | exact LeO.none _
      | refine LeO.ite ?_ ?_
      | refine LeO.bind ?_ (fun _ => ?_)
theorem laws_markText.mono : ∀ a0 k, LeO (laws_markText.f k a0) (laws_markText.f (k + 1) a0) := by
  intro a0 k
  have ih0 := laws_markText.mono_l k
  unfold laws_markText.f
  repeat' first
      | (with_reducible exact ih0 _ _)
      | (with_reducible exact LeO.refl _)
      | (with_reducible exact LeO.none _)
      | (with_reducible refine LeO.ite ?_ ?_)
      | (with_reducible refine LeO.bind ?_ (fun _ => ?_))
      | exact ih0 _ _
      | exact LeO.none _
      | refine LeO.ite ?_ ?_
      | refine LeO.bind ?_ (fun _ => ?_)
set_option maxHeartbeats 8000000 in
set_option maxRecDepth 100000 in
theorem laws_markText.calls (k : Nat) (a0 : Int) (r : ByteArray) (w : World) (h : laws_markText.f k a0 = some r) :
    Calls Try.prog 58 #[.int .i64 a0] w fun e w' => e = .returned (.string r) ∧ Below w.heap.size w w' := by
  have HB := Aside0.mk (Below.refl w.heap.size w)
  have H : (if a0 ≤ 0 then (some (⟨#[109, 48]⟩ : ByteArray)) else (laws_markText.l0 k a0 (⟨#[]⟩ : ByteArray))) = some r := h
  clear h
  by_cases c2 : a0 ≤ 0
  · rw [if_pos c2] at H
    have c2b0 : decide (a0 ≤ 0) = true := decide_eq_true c2
    clear c2
    obtain rfl := Option.some.inj H
    go_enter Try.func58, Try.ntmps58
    go_wp2
    go_ret
    exact ⟨by first | rfl | (simp [errW_none, errW_some] <;> rfl) | (simp [*, errW_none, errW_some] <;> rfl), by repeat (first | (with_reducible first | exact HB.out | apply below_alloc | apply pw_below_drewN | apply below_drew1) | exact HB.out)⟩
  · rw [if_neg c2] at H
    have c2b0 : decide (a0 ≤ 0) = false := decide_eq_false c2
    clear c2
    have H' := Aside0.mk H
    clear H
    go_enter Try.func58, Try.ntmps58
    go_wp2
    go_loopg [0, 3] k (fun kq v0 v3 w' => ∃ (x0_1 : Int) (x3_1 : ByteArray), v0 = .int .i64 x0_1 ∧ v3 = .string x3_1 ∧ Aside0 (laws_markText.l0 kq x0_1 x3_1 = some r) ∧ Aside0 (kq ≤ k) ∧ Aside0 (Below w.heap.size w w'))
    case atStart => exact ⟨(a0), ((⟨#[]⟩ : ByteArray)), (by first | rfl | (simp; done) | (simp [*]; done)), (by first | rfl | (simp; done) | (simp [*]; done)), H', ⟨Nat.le_refl _⟩, ⟨by repeat (first | (with_reducible first | exact HB.out | apply below_alloc | apply pw_below_drewN | apply below_drew1) | exact HB.out)⟩⟩
    case round =>
      clear H'
      try clear c2
      try clear c2b0
      try clear p2
      obtain ⟨x0_1, x3_1, rfl, rfl, HA, HK1, HB⟩ := hrel
      cases gk with
      | zero => exact absurd HA.out (by simp [laws_markText.l0])
      | succ k1 =>
        have H := HA.out
        clear HA
        simp only [laws_markText.l0] at H
        by_cases c3 : x0_1 > 0
        · rw [if_pos c3] at H
          have c3b0 : decide (0 < x0_1) = true := decide_eq_true c3
          clear c3
          obtain ⟨y132, hy132⟩ : ∃ y_ : List Int, y_ = (([(wrap64 (48 + (Int.tmod x0_1 10))) % 256] : List Int)) := ⟨_, rfl⟩
          replace H : (if (strOfNums y132).size + x3_1.size ≤ 9223372036854775807 then (laws_markText.l0 k1 (wrap64 (Int.tdiv x0_1 10)) ((strOfNums y132) ++ x3_1)) else (none)) = some r := by first | (rw [hy132]; with_reducible exact H) | (have H2_ := (Option.bind_some _ _).symm.trans H; rw [hy132]; with_reducible exact H2_) | (have H2_ := (Option.bind_some _ _).symm.trans H; with_reducible exact H2_) | with_reducible exact H | (rw [hy132]; exact H) | exact H
          have Ny132 := Aside0.mk hy132
          clear hy132
          by_cases c4 : (strOfNums y132).size + x3_1.size ≤ 9223372036854775807
          · rw [if_pos c4] at H
            have c4b0 := eq_true c4
            have c4b1 : decide ((strOfNums y132).size + x3_1.size ≤ 9223372036854775807) = true := decide_eq_true c4
            try have c4b2 : (9223372036854775807 < (strOfNums y132).size + x3_1.size) = False := eq_false (Nat.not_lt.2 c4)
            have H' := Aside0.mk H
            clear H
            go_wp2_with (first | ((with_reducible refine gate_dst (N := 12) rfl ?_); refine Kd.R_lit (Kd.int .u8) _ 5 ?hg (N := 12) ?hd (xs := ([(wrap64 (48 + (Int.tmod x0_1 10))) % 256] : List Int)) (inner := [.int .u8 ((wrap64 (48 + (Int.tmod x0_1 10))) % 256)]) (ok := fun _ => True) (okp := fun _ => True) ?hr ?hp (fun _ hk => hk) trivial (Below.refl _ _) (Nat.le_refl _) (by simp) ?_; (case hd => rfl); (case hg => rfl); (case hr => first | (go_simp; done) | (go_simp; rfl)); (case hp => exact (Reps.one (show Kd.M (Kd.int .u8) _ _ _ ((wrap64 (48 + (Int.tmod x0_1 10))) % 256) [.int .u8 ((wrap64 (48 + (Int.tmod x0_1 10))) % 256)] from rfl) (Reps.none _ _))); intro v133 w5 ho6 hb hg_ hnew_; clear hg_ hnew_; (first | rw [← Ny132.out] at ho6 | (simp only [Int.reduceToNat] at ho6; rw [← Ny132.out] at ho6)); have n0_ := Aside0.mk (Kd.R_lower ho6 (below_size (by repeat (first | (with_reducible first | exact HB.out | apply below_alloc | apply pw_below_drewN | apply below_drew1) | exact HB.out)))); have n1_ := Aside0.mk (below_step (by repeat (first | (with_reducible first | exact HB.out | apply below_alloc | apply pw_below_drewN | apply below_drew1) | exact HB.out)) hb); clear HB; have HO134 := n0_; have HB := n1_; clear n0_ n1_; clear hb ho6; have hcv7 := own_string (P := Try.prog) Try.underlying39 Try.underlying5 Try.underlying9 (Kd.own_of_R HO134.out)))
            go_roundg k1
            case measure => have := HK1.out; omega
            case rel => exact ⟨(wrap64 (Int.tdiv x0_1 10)), ((strOfNums y132) ++ x3_1), (by first | rfl | (simp; done) | (simp [*]; done)), (by first | rfl | (simp; done) | (simp [*]; done)), H', ⟨by have := HK1.out; omega⟩, ⟨by repeat (first | (with_reducible first | exact HB.out | apply below_alloc | apply pw_below_drewN | apply below_drew1) | exact HB.out)⟩⟩
          · rw [if_neg c4] at H
            exact absurd H (by simp)
        · rw [if_neg c3] at H
          have c3b0 : decide (0 < x0_1) = false := decide_eq_false c3
          clear c3
          by_cases c8 : 1 + x3_1.size ≤ 9223372036854775807
          · rw [if_pos c8] at H
            have c8b0 := eq_true c8
            have c8b1 : decide (1 + x3_1.size ≤ 9223372036854775807) = true := decide_eq_true c8
            try have c8b2 : (9223372036854775807 < 1 + x3_1.size) = False := eq_false (Nat.not_lt.2 c8)
            obtain rfl := Option.some.inj H
            go_wp2
            go_ret
            exact ⟨by first | rfl | (simp [errW_none, errW_some] <;> rfl) | (simp [*, errW_none, errW_some] <;> rfl), by repeat (first | (with_reducible first | exact HB.out | apply below_alloc | apply pw_below_drewN | apply below_drew1) | exact HB.out)⟩
          · rw [if_neg c8] at H
            exact absurd H (by simp)

/-! ### laws_markPartS: function 33 -/
def laws_markPartS.l0 : Nat → List (S59) → Int → Int → Option (Int × (List (S59)))
  | 0, _, _, _ => none
  | k + 1, x0, x1, x5 => if x5 < (x0.length : Int) then (if 0 ≤ x5 then ((some (x0.set (x5 : Int).toNat (⟨x1, (rd_T59 x0 x5).f1, (rd_T59 x0 x5).f2⟩ : S59) : List (S59))).bind fun y135 => ((some (y135.set (x5 : Int).toNat (⟨(rd_T59 y135 x5).f0, wrap64 (x1 + 1), (rd_T59 y135 x5).f2⟩ : S59) : List (S59))).bind fun y136 => ((laws_markText.f k (wrap64 ((wrap64 (x1 + 1)) + 1))).bind fun t137 => (laws_markPartS.l0 k (y136.set (x5 : Int).toNat (⟨(rd_T59 y136 x5).f0, (rd_T59 y136 x5).f1, t137⟩ : S59)) (wrap64 ((wrap64 ((wrap64 (x1 + 1)) + 1)) + 1)) (wrap64 (x5 + 1)))))) else (none)) else (some (x1, x0))
def laws_markPartS.f (k : Nat) (l0 : List (S59)) (a1 : Int) : Option (Int × (List (S59))) := laws_markPartS.l0 k l0 a1 0
theorem laws_markPartS.mono_l : ∀ k, (∀ y0 y1 y2, LeO (laws_markPartS.l0 k y0 y1 y2) (laws_markPartS.l0 (k + 1) y0 y1 y2))
  | 0 => fun _ _ _ r h => by simp [laws_markPartS.l0] at h
  | k + 1 => by
    have ih0 := laws_markPartS.mono_l k
    · intro y0 y1 y2
      unfold laws_markPartS.l0
      repeat' first
      | (with_reducible exact ih0 _ _ _)
      | (with_reducible exact laws_markText.mono _ _)
      | (with_reducible exact LeO.refl _)
      | (with_reducible exact LeO.none _)
      | (with_reducible refine LeO.ite ?_ ?_)
      | (with_reducible refine LeO.bind ?_ (fun _ => ?_))
      | exact ih0 _ _ _
      | exact laws_markText.mono _ _
      | exact LeO.none _
      | refine LeO.ite ?_ ?_
      | refine LeO.bind ?_ (fun _ => ?_)
theorem laws_markPartS.mono : ∀ a0 a1 k, LeO (laws_markPartS.f k a0 a1) (laws_markPartS.f (k + 1) a0 a1) := by
  intro a0 a1 k
  have ih0 := laws_markPartS.mono_l k
  unfold laws_markPartS.f
  repeat' first
      | (with_reducible exact ih0 _ _ _)
      | (with_reducible exact laws_markText.mono _ _)
      | (with_reducible exact LeO.refl _)
      | (with_reducible exact LeO.none _)
      | (with_reducible refine LeO.ite ?_ ?_)
      | (with_reducible refine LeO.bind ?_ (fun _ => ?_))
      | exact ih0 _ _ _
      | exact laws_markText.mono _ _
      | exact LeO.none _
      | refine LeO.ite ?_ ?_
      | refine LeO.bind ?_ (fun _ => ?_)
set_option maxHeartbeats 8000000 in
set_option maxRecDepth 100000 in
theorem laws_markPartS.calls (k : Nat) (P0_ : Nat → Prop) (u9000_ : Value) (l0 : List (S59)) (a1 : Int) (r1 : Int) (r2 : List (S59)) (w0 w : World) (hB : Below w0.heap.size w0 w) (ho0 : Kd.R k59 59 w w0.heap.size P0_ u9000_ l0) (h : laws_markPartS.f k l0 a1 = some (r1, r2)) :
    Calls Try.prog 33 #[u9000_, .int .i64 a1] w fun e w' => e = .returned (.int .i64 r1) ∧ Kd.R k59 59 w' w0.heap.size (fun k_ => (P0_ k_ ∨ w.heap.size ≤ k_)) u9000_ r2 ∧ Below w0.heap.size w0 w' ∧ Kept w w' (fun k_ => P0_ k_) := by
  have HO0 := Aside0.mk (show Kd.R k59 59 w w0.heap.size (fun k_ => (P0_ k_ ∨ w.heap.size ≤ k_)) u9000_ l0 from Kd.R_mono ho0 (fun k_ hk => (.inl hk)))
  have HK := Aside0.mk (Kept.refl w (fun k_ => P0_ k_))
  have HW0 := Aside0.mk hB.size
  have HB := Aside0.mk hB
  clear hB
  have H : (laws_markPartS.l0 k l0 a1 0) = some (r1, r2) := h
  clear h
  have H' := Aside0.mk H
  clear H
  go_enter Try.func33, Try.ntmps33
  go_wp2
  go_loopg [1, 5] k (fun kq v1 v5 w' => ∃ (x0_1 : List (S59)) (x1_1 : Int) (x5_1 : Int), v1 = .int .i64 x1_1 ∧ v5 = .int .i64 x5_1 ∧ Aside0 (laws_markPartS.l0 kq x0_1 x1_1 x5_1 = some (r1, r2)) ∧ Aside0 (kq ≤ k) ∧ Aside0 (Kd.R k59 59 w' w0.heap.size (fun k_ => (P0_ k_ ∨ w.heap.size ≤ k_)) u9000_ x0_1) ∧ Aside0 (Kept w w' (fun k_ => P0_ k_)) ∧ Aside0 (Below w0.heap.size w0 w'))
  case atStart => exact ⟨(l0), (a1), (0), (by first | rfl | (simp; done) | (simp [*]; done)), (by first | rfl | (simp; done) | (simp [*]; done)), H', ⟨Nat.le_refl _⟩, ⟨by (with_reducible repeat (first | apply Kd.R_alloc | apply Kd.R_drewN | apply Kd.R_drew)); exact HO0.out⟩, ⟨by repeat (first | (with_reducible first | exact HK.out | apply Kept.alloc | apply Kept.drewN | apply Kept.drew) | exact HK.out)⟩, ⟨by repeat (first | (with_reducible first | exact HB.out | apply below_alloc | apply pw_below_drewN | apply below_drew1) | exact HB.out)⟩⟩
  case round =>
    clear H'
    try clear p2
    obtain ⟨x0_1, x1_1, x5_1, rfl, rfl, HA, HK1, HO_0, HK, HB⟩ := hrel
    cases gk with
    | zero => exact absurd HA.out (by simp [laws_markPartS.l0])
    | succ k1 =>
      have H := HA.out
      clear HA
      simp only [laws_markPartS.l0] at H
      by_cases c3 : x5_1 < (x0_1.length : Int)
      · rw [if_pos c3] at H
        have c3b0 : decide (x5_1 < (x0_1.length : Int)) = true := decide_eq_true c3
        clear c3
        by_cases c4 : 0 ≤ x5_1
        · rw [if_pos c4] at H
          have c4b0 : decide (0 ≤ x5_1) = true := decide_eq_true c4
          clear c4
          obtain ⟨y135, hy135⟩ : ∃ y_ : List (S59), y_ = (x0_1.set (x5_1 : Int).toNat (⟨x1_1, (rd_T59 x0_1 x5_1).f1, (rd_T59 x0_1 x5_1).f2⟩ : S59)) := ⟨_, rfl⟩
          replace H : ((some (y135.set (x5_1 : Int).toNat (⟨(rd_T59 y135 x5_1).f0, wrap64 (x1_1 + 1), (rd_T59 y135 x5_1).f2⟩ : S59) : List (S59))).bind fun y136 => ((laws_markText.f k1 (wrap64 ((wrap64 (x1_1 + 1)) + 1))).bind fun t137 => (laws_markPartS.l0 k1 (y136.set (x5_1 : Int).toNat (⟨(rd_T59 y136 x5_1).f0, (rd_T59 y136 x5_1).f1, t137⟩ : S59)) (wrap64 ((wrap64 ((wrap64 (x1_1 + 1)) + 1)) + 1)) (wrap64 (x5_1 + 1))))) = some (r1, r2) := by first | (rw [hy135]; with_reducible exact H) | (have H2_ := (Option.bind_some _ _).symm.trans H; rw [hy135]; with_reducible exact H2_) | (have H2_ := (Option.bind_some _ _).symm.trans H; with_reducible exact H2_) | with_reducible exact H | (rw [hy135]; exact H) | exact H
          have Ny135 := Aside0.mk hy135
          clear hy135
          obtain ⟨y136, hy136⟩ : ∃ y_ : List (S59), y_ = (y135.set (x5_1 : Int).toNat (⟨(rd_T59 y135 x5_1).f0, wrap64 (x1_1 + 1), (rd_T59 y135 x5_1).f2⟩ : S59)) := ⟨_, rfl⟩
          replace H : ((laws_markText.f k1 (wrap64 ((wrap64 (x1_1 + 1)) + 1))).bind fun t137 => (laws_markPartS.l0 k1 (y136.set (x5_1 : Int).toNat (⟨(rd_T59 y136 x5_1).f0, (rd_T59 y136 x5_1).f1, t137⟩ : S59)) (wrap64 ((wrap64 ((wrap64 (x1_1 + 1)) + 1)) + 1)) (wrap64 (x5_1 + 1)))) = some (r1, r2) := by first | (rw [hy136]; with_reducible exact H) | (have H2_ := (Option.bind_some _ _).symm.trans H; rw [hy136]; with_reducible exact H2_) | (have H2_ := (Option.bind_some _ _).symm.trans H; with_reducible exact H2_) | with_reducible exact H | (rw [hy136]; exact H) | exact H
          have Ny136 := Aside0.mk hy136
          clear hy136
          replace H := Option.bind_eq_some_iff.mp H
          obtain ⟨t137, A70, H⟩ := H
          replace H : (laws_markPartS.l0 k1 (y136.set (x5_1 : Int).toNat (⟨(rd_T59 y136 x5_1).f0, (rd_T59 y136 x5_1).f1, t137⟩ : S59)) (wrap64 ((wrap64 ((wrap64 (x1_1 + 1)) + 1)) + 1)) (wrap64 (x5_1 + 1))) = some (r1, r2) := H
          have A7 := Aside0.mk A70
          clear A70
          obtain ⟨y138, hy138⟩ : ∃ y_ : List (S59), y_ = (y136.set (x5_1 : Int).toNat (⟨(rd_T59 y136 x5_1).f0, (rd_T59 y136 x5_1).f1, t137⟩ : S59)) := ⟨_, rfl⟩
          replace H : (laws_markPartS.l0 k1 y138 (wrap64 ((wrap64 ((wrap64 (x1_1 + 1)) + 1)) + 1)) (wrap64 (x5_1 + 1))) = some (r1, r2) := by first | (rw [hy138]; with_reducible exact H) | (have H2_ := (Option.bind_some _ _).symm.trans H; rw [hy138]; with_reducible exact H2_) | (have H2_ := (Option.bind_some _ _).symm.trans H; with_reducible exact H2_) | with_reducible exact H | (rw [hy138]; exact H) | exact H
          have Ny138 := Aside0.mk hy138
          clear hy138
          have H' := Aside0.mk H
          clear H
          obtain ⟨Ao9, co9, eo9⟩ := Kd.R_slice HO_0.out
          subst eo9
          have p5 : 0 ≤ (x5_1 : Int) := of_decide_eq_true (by first | (with_reducible assumption) | assumption)
          have q5 : (x5_1 : Int) < ((x0_1.length : Int) : Int) := of_decide_eq_true (by first | (with_reducible assumption) | assumption)
          obtain ⟨go5, co5, eo5, gb5, gl5, cl5, HG5⟩ := Kd.R_form HO_0.out (by omega)
          (first | cases eo5 | (injection eo5 with ea_ en_ ec_; (first | subst ea_ | (injection ea_ with ea_; subst ea_)); subst ec_; clear en_))
          have GB5 := Aside0.mk gb5
          have GG5 := Aside0.mk HG5
          clear gb5 gl5 HG5
          have HMgo5 := Aside0.mk (show (P0_ go5 ∨ w.heap.size ≤ go5) from (HO_0.out.1 _ rfl))
          obtain ⟨ce5, hcl5, hM5, hcc5, hfr5⟩ := Kd.R_elem HO_0.out z59 (x5_1 : Int) p5 q5
          obtain rfl := k59_openM hM5
          have hx5_0 : wr.cell? ⟨go5, (x5_1 : Int).toNat * 3, none⟩ = some (.int .i64 ((rd_T59 x0_1 x5_1).f0)) := hcc5 0 _ rfl
          have hx5_1 : wr.cell? ⟨go5, (x5_1 : Int).toNat * 3 + 1, none⟩ = some (.int .i64 ((rd_T59 x0_1 x5_1).f1)) := hcc5 1 _ rfl
          have hx5_2 : wr.cell? ⟨go5, (x5_1 : Int).toNat * 3 + 2, none⟩ = some (.string ((rd_T59 x0_1 x5_1).f2)) := hcc5 2 _ rfl
          have hf5_0 : wr.frozen? ⟨go5, (x5_1 : Int).toNat * 3, none⟩ = false := hfr5 0
          have hf5_1 : wr.frozen? ⟨go5, (x5_1 : Int).toNat * 3 + 1, none⟩ = false := hfr5 1
          have hf5_2 : wr.frozen? ⟨go5, (x5_1 : Int).toNat * 3 + 2, none⟩ = false := hfr5 2
          clear hcl5 hcc5 hfr5 hM5
          replace p5 := eq_true p5
          replace q5 := eq_true q5
          have HX10 := Aside0.mk (show Kd.R k59 59 wr w0.heap.size (fun k_ => (P0_ k_ ∨ w.heap.size ≤ k_)) (.slice (some ⟨go5, 0, none⟩) x0_1.length co9) x0_1 from (by (with_reducible repeat (first | apply Kd.R_alloc | apply Kd.R_drewN | apply Kd.R_drew)); exact HO_0.out))
          obtain ⟨ce10, hcl10, hM10, hcc10, hfr10⟩ := Kd.R_elem HX10.out z59 (x5_1 : Int) (of_decide_eq_true (by first | (with_reducible assumption) | assumption)) (by have h_ : (x5_1 : Int) < ((x0_1.length : Int) : Int) := of_decide_eq_true (by first | (with_reducible assumption) | assumption); first | exact h_ | (have e_ := (Kd.R_reads' HO_0.out).1; omega) | simpa using h_)
          obtain rfl := k59_openM hM10
          have HP10 := Kd.R_seg HX10.out (x5_1 : Int) (of_decide_eq_true (by first | (with_reducible assumption) | assumption)) (by have h_ : (x5_1 : Int) < ((x0_1.length : Int) : Int) := of_decide_eq_true (by first | (with_reducible assumption) | assumption); first | exact h_ | (have e_ := (Kd.R_reads' HO_0.out).1; omega) | simpa using h_) (seg := [.int .i64 x1_1]) (j := 0) hcl10 hcc10 (show 1 ≤ 3 from by decide) (x' := (⟨x1_1, (rd_T59 x0_1 x5_1).f1, (rd_T59 x0_1 x5_1).f2⟩ : S59)) (k59_mkM _ _ _ (⟨x1_1, (rd_T59 x0_1 x5_1).f1, (rd_T59 x0_1 x5_1).f2⟩ : S59) ) (fun _ hk => hk)
          have hx10_0 := hcc10 0 _ rfl
          (try simp only [show (k59).sz = 3 from rfl, Nat.mul_one, Nat.add_zero] at hx10_0)
          have hf10_0 := hfr10 0
          (try simp only [show (k59).sz = 3 from rfl, Nat.mul_one, Nat.add_zero] at hf10_0)
          clear hcl10 hcc10 hfr10 hM10
          go_wp2_with (first | ((with_reducible refine gate_store (t := 3) (p := 16) rfl ?_); refine store_event (t := 3) (p := 16) (v := ?vo_w11) (w1 := (wr.setCell ⟨go5, (x5_1 : Int).toNat * 3, none⟩ (.int .i64 x1_1))) ?hg ?ho ?hn ?hr ?_; (case ho => rfl); (case hg => rfl); (case hn => rfl); (case hr => first | (go_simp; done) | (go_simp; rfl)); intro w11 hw; have hg : wr.grownBy w11 (some go5) := (by rw [hw]; exact HP10.2); have hp_ : Kd.R k59 59 w11 w0.heap.size (fun k_ => (P0_ k_ ∨ w.heap.size ≤ k_)) (.slice (some ⟨go5, 0, none⟩) x0_1.length co9) y135 := (by rw [hw, Ny135.out]; exact HP10.1); clear HP10; have n0_ := Aside0.mk (hp_); have n1_ := Aside0.mk ((by rw [hw]; exact below_set (HB.out) GB5.out : Below w0.heap.size w0 w11)); have n2_ := Aside0.mk (Kept.of_grown (S := (fun k_ => P0_ k_)) hg (by repeat (first | (with_reducible first | exact HK.out | apply Kept.alloc | apply Kept.drewN | apply Kept.drew) | exact HK.out)) (fun k_ e_ => (HO_0.out.1 k_ e_))); clear HO_0; clear HB; clear HK; have HO_0 := n0_; have HB := n1_; have HK := n2_; clear n0_ n1_ n2_; clear hg hw hp_; have p6 : 0 ≤ (x5_1 : Int) := of_decide_eq_true (by first | (with_reducible assumption) | assumption); have q6 : (x5_1 : Int) < ((x0_1.length : Int) : Int) := of_decide_eq_true (by first | (with_reducible assumption) | assumption); obtain ⟨ce6, hcl6, hM6, hcc6, hfr6⟩ := Kd.R_elem HO_0.out z59 (x5_1 : Int) p6 q6; obtain rfl := k59_openM hM6; have hx6_0 : w11.cell? ⟨go5, (x5_1 : Int).toNat * 3, none⟩ = some (.int .i64 ((rd_T59 y135 x5_1).f0)) := hcc6 0 _ rfl; have hx6_1 : w11.cell? ⟨go5, (x5_1 : Int).toNat * 3 + 1, none⟩ = some (.int .i64 ((rd_T59 y135 x5_1).f1)) := hcc6 1 _ rfl; have hx6_2 : w11.cell? ⟨go5, (x5_1 : Int).toNat * 3 + 2, none⟩ = some (.string ((rd_T59 y135 x5_1).f2)) := hcc6 2 _ rfl; have hf6_0 : w11.frozen? ⟨go5, (x5_1 : Int).toNat * 3, none⟩ = false := hfr6 0; have hf6_1 : w11.frozen? ⟨go5, (x5_1 : Int).toNat * 3 + 1, none⟩ = false := hfr6 1; have hf6_2 : w11.frozen? ⟨go5, (x5_1 : Int).toNat * 3 + 2, none⟩ = false := hfr6 2; clear hcl6 hcc6 hfr6 hM6; replace p6 := eq_true p6; replace q6 := eq_true q6; have HX12 := Aside0.mk (show Kd.R k59 59 w11 w0.heap.size (fun k_ => (P0_ k_ ∨ w.heap.size ≤ k_)) (.slice (some ⟨go5, 0, none⟩) x0_1.length co9) y135 from (by (with_reducible repeat (first | apply Kd.R_alloc | apply Kd.R_drewN | apply Kd.R_drew)); exact HO_0.out)); obtain ⟨ce12, hcl12, hM12, hcc12, hfr12⟩ := Kd.R_elem HX12.out z59 (x5_1 : Int) (of_decide_eq_true (by first | (with_reducible assumption) | assumption)) (by have h_ : (x5_1 : Int) < ((x0_1.length : Int) : Int) := of_decide_eq_true (by first | (with_reducible assumption) | assumption); first | exact h_ | (have e_ := (Kd.R_reads' HO_0.out).1; omega) | simpa using h_); obtain rfl := k59_openM hM12; have HP12 := Kd.R_seg HX12.out (x5_1 : Int) (of_decide_eq_true (by first | (with_reducible assumption) | assumption)) (by have h_ : (x5_1 : Int) < ((x0_1.length : Int) : Int) := of_decide_eq_true (by first | (with_reducible assumption) | assumption); first | exact h_ | (have e_ := (Kd.R_reads' HO_0.out).1; omega) | simpa using h_) (seg := [.int .i64 (wrap64 (x1_1 + 1))]) (j := 1) hcl12 hcc12 (show 2 ≤ 3 from by decide) (x' := (⟨(rd_T59 y135 x5_1).f0, wrap64 (x1_1 + 1), (rd_T59 y135 x5_1).f2⟩ : S59)) (k59_mkM _ _ _ (⟨(rd_T59 y135 x5_1).f0, wrap64 (x1_1 + 1), (rd_T59 y135 x5_1).f2⟩ : S59) ) (fun _ hk => hk); have hx12_1 := hcc12 1 _ rfl; (try simp only [show (k59).sz = 3 from rfl, Nat.mul_one, Nat.add_zero] at hx12_1); have hf12_1 := hfr12 1; (try simp only [show (k59).sz = 3 from rfl, Nat.mul_one, Nat.add_zero] at hf12_1); clear hcl12 hcc12 hfr12 hM12) | ((with_reducible refine gate_store (t := 3) (p := 23) rfl ?_); refine store_event (t := 3) (p := 23) (v := ?vo_w13) (w1 := (w11.setCell ⟨go5, (x5_1 : Int).toNat * 3 + 1, none⟩ (.int .i64 (wrap64 (x1_1 + 1))))) ?hg ?ho ?hn ?hr ?_; (case ho => rfl); (case hg => rfl); (case hn => rfl); (case hr => first | (go_simp; done) | (go_simp; rfl)); intro w13 hw; have hg : w11.grownBy w13 (some go5) := (by rw [hw]; exact HP12.2); have hp_ : Kd.R k59 59 w13 w0.heap.size (fun k_ => (P0_ k_ ∨ w.heap.size ≤ k_)) (.slice (some ⟨go5, 0, none⟩) x0_1.length co9) y136 := (by rw [hw, Ny136.out]; exact HP12.1); clear HP12; have n0_ := Aside0.mk (hp_); have n1_ := Aside0.mk ((by rw [hw]; exact below_set (HB.out) GB5.out : Below w0.heap.size w0 w13)); have n2_ := Aside0.mk (Kept.of_grown (S := (fun k_ => P0_ k_)) hg (by repeat (first | (with_reducible first | exact HK.out | apply Kept.alloc | apply Kept.drewN | apply Kept.drew) | exact HK.out)) (fun k_ e_ => (HO_0.out.1 k_ e_))); clear HO_0; clear HB; clear HK; have HO_0 := n0_; have HB := n1_; have HK := n2_; clear n0_ n1_ n2_; clear hg hw hp_) | ((with_reducible refine gate_callee (f := 58) rfl ?_); refine goesL_ (some 29) rfl rfl Try.func58 (by kernel_rfl) rfl #[.int .i64 (wrap64 ((wrap64 (x1_1 + 1)) + 1))] rfl (by (try simp only [List.map_toArray, List.map_cons, List.map_nil]); first | done | rfl | (simp only [List.length_drop, List.length_take]; rfl)) ?_; (with_reducible refine (laws_markText.calls k1 (wrap64 ((wrap64 (x1_1 + 1)) + 1)) t137 _ A7.out).mono ?_); rintro e w14 ⟨rfl, hb⟩; refine ⟨_, rfl, ?_⟩; have n0_ := Aside0.mk (Kd.R_below (by (with_reducible repeat (first | apply Kd.R_alloc | apply Kd.R_drewN | apply Kd.R_drew)); exact HO_0.out) hb); have n1_ := Aside0.mk (Kept.below (S := (fun k_ => P0_ k_)) (by repeat (first | (with_reducible first | exact HK.out | apply Kept.alloc | apply Kept.drewN | apply Kept.drew) | exact HK.out)) hb); have n2_ := Aside0.mk (below_step (by repeat (first | (with_reducible first | exact HB.out | apply below_alloc | apply pw_below_drewN | apply below_drew1) | exact HB.out)) hb); clear HO_0; clear HK; clear HB; have HO_0 := n0_; have HK := n1_; have HB := n2_; clear n0_ n1_ n2_; (try clear hb); (try clear hb2); (try clear hk); (try clear hi); have p8 : 0 ≤ (x5_1 : Int) := of_decide_eq_true (by first | (with_reducible assumption) | assumption); have q8 : (x5_1 : Int) < ((x0_1.length : Int) : Int) := of_decide_eq_true (by first | (with_reducible assumption) | assumption); obtain ⟨ce8, hcl8, hM8, hcc8, hfr8⟩ := Kd.R_elem HO_0.out z59 (x5_1 : Int) p8 q8; obtain rfl := k59_openM hM8; have hx8_0 : w14.cell? ⟨go5, (x5_1 : Int).toNat * 3, none⟩ = some (.int .i64 ((rd_T59 y136 x5_1).f0)) := hcc8 0 _ rfl; have hx8_1 : w14.cell? ⟨go5, (x5_1 : Int).toNat * 3 + 1, none⟩ = some (.int .i64 ((rd_T59 y136 x5_1).f1)) := hcc8 1 _ rfl; have hx8_2 : w14.cell? ⟨go5, (x5_1 : Int).toNat * 3 + 2, none⟩ = some (.string ((rd_T59 y136 x5_1).f2)) := hcc8 2 _ rfl; have hf8_0 : w14.frozen? ⟨go5, (x5_1 : Int).toNat * 3, none⟩ = false := hfr8 0; have hf8_1 : w14.frozen? ⟨go5, (x5_1 : Int).toNat * 3 + 1, none⟩ = false := hfr8 1; have hf8_2 : w14.frozen? ⟨go5, (x5_1 : Int).toNat * 3 + 2, none⟩ = false := hfr8 2; clear hcl8 hcc8 hfr8 hM8; replace p8 := eq_true p8; replace q8 := eq_true q8; have HX15 := Aside0.mk (show Kd.R k59 59 w14 w0.heap.size (fun k_ => (P0_ k_ ∨ w.heap.size ≤ k_)) (.slice (some ⟨go5, 0, none⟩) x0_1.length co9) y136 from (by (with_reducible repeat (first | apply Kd.R_alloc | apply Kd.R_drewN | apply Kd.R_drew)); exact HO_0.out)); obtain ⟨ce15, hcl15, hM15, hcc15, hfr15⟩ := Kd.R_elem HX15.out z59 (x5_1 : Int) (of_decide_eq_true (by first | (with_reducible assumption) | assumption)) (by have h_ : (x5_1 : Int) < ((x0_1.length : Int) : Int) := of_decide_eq_true (by first | (with_reducible assumption) | assumption); first | exact h_ | (have e_ := (Kd.R_reads' HO_0.out).1; omega) | simpa using h_); obtain rfl := k59_openM hM15; have HP15 := Kd.R_seg HX15.out (x5_1 : Int) (of_decide_eq_true (by first | (with_reducible assumption) | assumption)) (by have h_ : (x5_1 : Int) < ((x0_1.length : Int) : Int) := of_decide_eq_true (by first | (with_reducible assumption) | assumption); first | exact h_ | (have e_ := (Kd.R_reads' HO_0.out).1; omega) | simpa using h_) (seg := [.string t137]) (j := 2) hcl15 hcc15 (show 3 ≤ 3 from by decide) (x' := (⟨(rd_T59 y136 x5_1).f0, (rd_T59 y136 x5_1).f1, t137⟩ : S59)) (k59_mkM _ _ _ (⟨(rd_T59 y136 x5_1).f0, (rd_T59 y136 x5_1).f1, t137⟩ : S59) ) (fun _ hk => hk); have hx15_2 := hcc15 2 _ rfl; (try simp only [show (k59).sz = 3 from rfl, Nat.mul_one, Nat.add_zero] at hx15_2); have hf15_2 := hfr15 2; (try simp only [show (k59).sz = 3 from rfl, Nat.mul_one, Nat.add_zero] at hf15_2); clear hcl15 hcc15 hfr15 hM15) | ((with_reducible refine gate_store (t := 9) (p := 31) rfl ?_); refine store_event (t := 9) (p := 31) (v := ?vo_w16) (w1 := (w14.setCell ⟨go5, (x5_1 : Int).toNat * 3 + 2, none⟩ (.string t137))) ?hg ?ho ?hn ?hr ?_; (case ho => rfl); (case hg => rfl); (case hn => rfl); (case hr => first | (go_simp; done) | (go_simp; rfl)); intro w16 hw; have hg : w14.grownBy w16 (some go5) := (by rw [hw]; exact HP15.2); have hp_ : Kd.R k59 59 w16 w0.heap.size (fun k_ => (P0_ k_ ∨ w.heap.size ≤ k_)) (.slice (some ⟨go5, 0, none⟩) x0_1.length co9) y138 := (by rw [hw, Ny138.out]; exact HP15.1); clear HP15; have n0_ := Aside0.mk (hp_); have n1_ := Aside0.mk ((by rw [hw]; exact below_set (HB.out) GB5.out : Below w0.heap.size w0 w16)); have n2_ := Aside0.mk (Kept.of_grown (S := (fun k_ => P0_ k_)) hg (by repeat (first | (with_reducible first | exact HK.out | apply Kept.alloc | apply Kept.drewN | apply Kept.drew) | exact HK.out)) (fun k_ e_ => (HO_0.out.1 k_ e_))); clear HO_0; clear HB; clear HK; have HO_0 := n0_; have HB := n1_; have HK := n2_; clear n0_ n1_ n2_; clear hg hw hp_))
          go_roundg k1
          case measure => have := HK1.out; omega
          case rel => exact ⟨(y138), (wrap64 ((wrap64 ((wrap64 (x1_1 + 1)) + 1)) + 1)), (wrap64 (x5_1 + 1)), (by first | rfl | (simp; done) | (simp [*]; done)), (by first | rfl | (simp; done) | (simp [*]; done)), H', ⟨by have := HK1.out; omega⟩, ⟨by (with_reducible repeat (first | apply Kd.R_alloc | apply Kd.R_drewN | apply Kd.R_drew)); exact HO_0.out⟩, ⟨by repeat (first | (with_reducible first | exact HK.out | apply Kept.alloc | apply Kept.drewN | apply Kept.drew) | exact HK.out)⟩, ⟨by repeat (first | (with_reducible first | exact HB.out | apply below_alloc | apply pw_below_drewN | apply below_drew1) | exact HB.out)⟩⟩
        · rw [if_neg c4] at H
          exact absurd H (by simp)
      · rw [if_neg c3] at H
        have c3b0 : decide (x5_1 < (x0_1.length : Int)) = false := decide_eq_false c3
        clear c3
        simp only [Option.some.injEq, Prod.mk.injEq] at H
        obtain ⟨rfl, rfl⟩ := H
        obtain ⟨Ao17, co17, eo17⟩ := Kd.R_slice HO_0.out
        subst eo17
        go_wp2
        go_ret
        exact ⟨by first | rfl | (simp [errW_none, errW_some] <;> rfl) | (simp [*, errW_none, errW_some] <;> rfl), by (with_reducible repeat (first | apply Kd.R_alloc | apply Kd.R_drewN | apply Kd.R_drew)); exact HO_0.out, by repeat (first | (with_reducible first | exact HB.out | apply below_alloc | apply pw_below_drewN | apply below_drew1) | exact HB.out), by repeat (first | (with_reducible first | exact HK.out | apply Kept.alloc | apply Kept.drewN | apply Kept.drew) | exact HK.out)⟩

end Go.Proofs.Ytlfgkodipeofiaa.PE

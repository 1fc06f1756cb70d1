-- Written by a program of this session (wip/xprint.py over the kit's printer), out of the translation; the texts of functions that the printer does not take are this session's own.
import Derived.Test.YtmglhpajnhdafaaPQx0
import Derived.Test.YtmglhpajnhdafaaPQx1
namespace Go.Proofs.Ytmglhpajnhdafaa.PQ
open Go.RowKit Go.Proofs.YtmglhpajnhdafaaW.PrintWords Go.Proofs.YtmglhpajnhdafaaW.PrintLast Go.Proofs.YtmglhpajnhdafaaW.PrintMore
attribute [local go_sem] max2_int min2_int max_two min_two max_three min_three max_four min_four   -- for this text's walks alone
set_option linter.unusedVariables false
set_option linter.unusedSimpArgs false

/-! ### spec_l10Reduce: function 26 (our own text) -/
def spec_l10Reduce.f (a0 : Int) (l0 : List S32) : Option (List S32 × List S32) := if 0 ≤ a0 then (if a0 ≤ 1000 then (if l0.length ≤ 1000 then redS a0.toNat [] l0 else none) else none) else none
set_option maxHeartbeats 8000000 in
set_option maxRecDepth 100000 in
theorem spec_l10Reduce.calls (a0 : Int) (A1 : Option Addr) (c1 : Nat) (l0 : List S32) (r1 r2 : List S32) (w : World) (hr0 : Kd.C k32 w A1 l0.length l0) (hc0 : l0.length ≤ c1) (h : spec_l10Reduce.f a0 l0 = some (r1, r2)) :
    Calls Try.prog 26 #[.int .i64 a0, .slice A1 l0.length c1] w fun e w' => ∃ v0_ v1_ : Value, e = .returned (.tuple #[v0_, v1_]) ∧ Kd.R k32 32 w' w.heap.size (fun _ => True) v0_ r1 ∧ Kd.R k32 32 w' w.heap.size (fun _ => True) v1_ r2 ∧ Below w.heap.size w w' := by
  unfold spec_l10Reduce.f at h
  by_cases d1 : 0 ≤ a0
  · rw [if_pos d1] at h
    by_cases d2 : a0 ≤ 1000
    · rw [if_pos d2] at h
      by_cases d3 : l0.length ≤ 1000
      · rw [if_pos d3] at h
        obtain ⟨n, rfl⟩ := Int.eq_ofNat_of_zero_le d1
        rw [Int.toNat_natCast] at h
        have H0 := Aside0.mk h
        have HR := Aside0.mk hr0
        have D2 := Aside0.mk d2
        have D3 := Aside0.mk d3
        have ew : wrap64 ((n : Int) - 1) = (n : Int) - 1 := by
          rw [← i64_w]
          simp only [IntKind.wrap, IntKind.signed, IntKind.bits]
          simp
          omega
        have EW := Aside0.mk ew
        clear h hr0 hc0 d1 d2 d3 ew
        go_enter Try.func26, Try.ntmps26
        go_wp2_with (first | ((with_reducible refine gate_dst (N := 18) rfl ?_); refine Kd.R_lit k32 _ 32 ?hg (N := 18) ?hd (xs := ([] : List S32)) (inner := []) (ok := fun _ => True) (okp := fun _ => True) ?hr ?hp (fun _ hk => hk) trivial (Below.refl _ _) (Nat.le_refl _) (by simp) ?_; (case hd => rfl); (case hg => rfl); (case hr => first | (go_simp; done) | (go_simp; rfl)); (case hp => exact (Reps.none _ _)); intro v5 w5 ho5 hb5 hg5 hnew5; clear hg5 hnew5; have HO5 := Aside0.mk ho5; have HB5 := Aside0.mk hb5; clear ho5 hb5) | ((with_reducible refine gate_builtin (b := .append) (xs := #[.tmp 18, .tmp 19]) rfl ?_); at_builtin; refine Kd.R_append_rows k32 (w0 := w) w.heap.size rfl (.tmp 18) (.tmp 19) 49 32 (.agg #[(.int .i64 0), (.string ⟨#[]⟩)]) 24 rfl Try.underlying49 info32 rfl (by decide) (by omega) v5 [] l0 _ _ _ (fun _ => True) (fun _ => False) rfl rfl ?aO ?aR (fun _ _ h => h) (fun _ h => h.elim) (fun _ _ => trivial) ?aB ?aS ?aL ?_; (case aO => exact HO5.out); (case aR => exact Kd.C_below HR.out HB5.out); (case aB => exact HB5.out); (case aS => exact HB5.out.size); (case aL => have := D3.out; simp; omega); intro v w1 ho7 hb7 hg7 hat7; rw [List.nil_append] at ho7; have HO := Aside0.mk ho7; have HB := Aside0.mk hb7; clear ho7 hb7 hg7 hat7))
        try rw [EW.out]
        clear HO5 HB5 HR
        go_loopg [6, 7, 8] n (fun gg v6 v7 v8 wr => ∃ (told left : List S32) (m : Nat), m ≤ gg ∧ v8 = .int .i64 ((m : Int) - 1) ∧ Aside0 (told.length + m ≤ n ∧ left.length ≤ 1000) ∧ Aside0 (redS m told left = some (r1, r2)) ∧ Aside0 (Kd.R k32 32 wr w.heap.size (fun _ => True) v6 told) ∧ Aside0 (Kd.R k32 32 wr w.heap.size (fun _ => True) v7 left) ∧ Aside0 (∀ k, v6.ownBlock = some k → v7.ownBlock ≠ some k) ∧ Aside0 (Below w.heap.size w wr))
        case atStart => exact ⟨[], l0, n, Nat.le_refl _, by first | rfl | exact congrArg (Value.int .i64) EW.out, ⟨by rw [List.length_nil]; exact ⟨by omega, D3.out⟩⟩, H0, ⟨Kd.R_nil _ _ _ _ _⟩, HO, ⟨fun k hk => by simp [Value.ownBlock] at hk⟩, HB⟩
        case round =>
          clear HO HB H0
          obtain ⟨told, left, m, hm, rfl, HT, HA, HO6, HO7, HD, HB⟩ := hrel
          cases m with
          | zero =>
            have H := HA.out
            simp only [redS] at H
            injection H with H
            injection H with e1 e2
            subst e1 e2
            go_wp2
            go_ret2
            exact ⟨_, _, rfl, HO6.out, HO7.out, HB.out⟩
          | succ m =>
            have H := HA.out
            simp only [redS] at H
            have HH := Aside0.mk H
            have em : (((m + 1 : Nat) : Int) - 1) = (m : Int) := by omega
            rw [em]
            obtain ⟨A7, c7, e7⟩ := Kd.R_slice HO7.out
            subst e7
            have p0 : (0 ≤ (m : Int)) = True := eq_true (by omega)
            have p0b : decide (0 ≤ (m : Int)) = true := decide_eq_true (by omega)
            have hu : IntKind.u64.wrap (m : Int) = (m : Int) := by
              have h1 := HT.out
              have h2 := D2.out
              simp only [IntKind.wrap, IntKind.signed, IntKind.bits]
              simp
              omega
            clear H HA em
            go_wp2
            go_loopg [9, 29] left.length (fun gg v9 v29 wr => ∃ (i : Nat) (a : Int), i ≤ left.length ∧ left.length - i ≤ gg ∧ v9 = .int .i64 a ∧ v29 = .int .i64 (i : Int) ∧ Aside0 (atL (m : Int) (left.drop i) i a = atL (m : Int) left 0 (-1)) ∧ Aside0 (Kd.R k32 32 wr w.heap.size (fun _ => True) u6 told) ∧ Aside0 (Kd.R k32 32 wr w.heap.size (fun _ => True) (.slice A7 left.length c7) left) ∧ Aside0 (Below w.heap.size w wr))
            case atStart => exact ⟨0, -1, Nat.zero_le _, by omega, rfl, by first | rfl | simp [goInt], ⟨by rw [List.drop_zero]⟩, HO6, HO7, HB⟩
            case round =>
              clear HO6 HO7 HB
              obtain ⟨i, a, hi, hig, rfl, rfl, HAT, HO6, HO7, HB⟩ := hrel
              by_cases hil : i < left.length
              · have e1 : ((i : Int) < (left.length : Int)) = True := eq_true (by omega)
                have e1b : decide ((i : Int) < (left.length : Int)) = true := decide_eq_true (by omega)
                have e0 : (0 ≤ (i : Int)) = True := eq_true (by omega)
                obtain ⟨g7, c7', e7, gb7, gl7, _, _⟩ := Kd.R_form HO7.out (by omega)
                injection e7 with ea en ec
                subst ea ec
                clear en
                obtain ⟨z, hze⟩ : ∃ z, z = rd_T32 left (i : Int) := ⟨_, rfl⟩
                obtain ⟨hc0, hc1, hf0, hf1⟩ := prow_cell HO7.out i hil
                rw [← hze] at hc0 hc1
                have er : rd_T32 left (i : Int) = left[i] := by simp [rd_T32, List.getD_eq_getElem?_getD, hil]
                have hat := HAT.out
                rw [List.drop_eq_getElem_cons hil, ← er, ← hze, atL] at hat
                obtain ⟨s, hs⟩ : ∃ s, shr .i64 z.f0 (m : Int) = s := ⟨_, rfl⟩
                have hs_ : (z.f0 / 2 ^ min ((m : Int)).toNat 64) = s := hs
                have hs2 : (z.f0 / 2 ^ min m 64) = s := hs
                have hs3 : (m : Int) ≤ 64 → (z.f0 / 2 ^ ((m : Int)).toNat) = s := shr_small hs
                have hbv : bitV (m : Int) z = Go.bits .and .i64 s 1 := by unfold bitV; rw [hs]
                rw [hbv] at hat
                have HAT2 := Aside0.mk hat
                have hw : IntKind.i64.wrap ((i : Int) + 1) = ((i + 1 : Nat) : Int) := by
                  have := HT.out
                  simp only [IntKind.wrap, IntKind.signed, IntKind.bits]
                  simp
                  omega
                clear hat HAT hbv hze er gb7 gl7
                by_cases ca : a < 0
                · have ca1 := eq_true ca
                  have ca2 : decide (a < 0) = true := decide_eq_true ca
                  have hat := HAT2.out
                  rw [if_pos ca] at hat
                  by_cases cb : Go.bits .and .i64 s 1 = 1
                  · have cb1 : (Go.bits .and .i64 s 1 == 1) = true := beq_iff_eq.mpr cb
                    rw [if_pos cb] at hat
                    have HAT3 := Aside0.mk hat
                    clear hat HAT2 cb
                    go_wp2
                    go_roundg (left.length - (i + 1))
                    case measure => omega
                    case rel => exact ⟨i + 1, (i : Int), by omega, by omega, rfl, by first | rfl | exact congrArg (Value.int .i64) hw, HAT3, ⟨Kd.R_alloc HO6.out _⟩, ⟨Kd.R_alloc HO7.out _⟩, ⟨below_alloc HB.out _⟩⟩
                  · have cb1 : (Go.bits .and .i64 s 1 == 1) = false := beq_eq_false_iff_ne.mpr cb
                    rw [if_neg cb] at hat
                    have HAT3 := Aside0.mk hat
                    clear hat HAT2 cb
                    go_wp2
                    go_roundg (left.length - (i + 1))
                    case measure => omega
                    case rel => exact ⟨i + 1, a, by omega, by omega, rfl, by first | rfl | exact congrArg (Value.int .i64) hw, HAT3, ⟨Kd.R_alloc HO6.out _⟩, ⟨Kd.R_alloc HO7.out _⟩, ⟨below_alloc HB.out _⟩⟩
                · have ca1 := eq_false ca
                  have ca2 : decide (a < 0) = false := decide_eq_false ca
                  have hat := HAT2.out
                  rw [if_neg ca] at hat
                  have HAT3 := Aside0.mk hat
                  clear hat HAT2
                  go_wp2
                  go_roundg (left.length - (i + 1))
                  case measure => omega
                  case rel => exact ⟨i + 1, a, by omega, by omega, rfl, by first | rfl | exact congrArg (Value.int .i64) hw, HAT3, ⟨Kd.R_alloc HO6.out _⟩, ⟨Kd.R_alloc HO7.out _⟩, ⟨below_alloc HB.out _⟩⟩
              · obtain rfl : i = left.length := by omega
                have e1 : ((left.length : Int) < (left.length : Int)) = False := eq_false (by omega)
                have e1b : decide ((left.length : Int) < (left.length : Int)) = false := decide_eq_false (by omega)
                have hat := HAT.out
                rw [List.drop_length, atL] at hat
                have H := HH.out
                rw [← hat] at H
                obtain ⟨ha1, ha2⟩ := atL_range (m : Int) left 0 (-1) (by omega) (by omega)
                rw [← hat] at ha1 ha2
                have ew2 : wrap64 ((m : Int) - 1) = (m : Int) - 1 := by
                  have := HT.out
                  have := D2.out
                  rw [← i64_w]
                  simp only [IntKind.wrap, IntKind.signed, IntKind.bits]
                  simp
                  omega
                have EW2 := Aside0.mk ew2
                clear hat HAT ew2
                by_cases ca : a < 0
                · rw [if_pos ca] at H
                  have HH2 := Aside0.mk H
                  have ca1 := eq_true ca
                  have ca2 : decide (a < 0) = true := decide_eq_true ca
                  clear H HH
                  go_wp2
                  try rw [EW2.out]
                  go_roundg m
                  case measure => omega
                  case rel => exact ⟨told, left, m, Nat.le_refl _, by first | rfl | exact congrArg (Value.int .i64) EW2.out, ⟨by have := HT.out; exact ⟨by omega, this.2⟩⟩, HH2, HO6, HO7, HD, HB⟩
                · rw [if_neg ca] at H
                  have ca1 := eq_false ca
                  have ca2 : decide (a < 0) = false := decide_eq_false ca
                  obtain ⟨j, rfl⟩ := Int.eq_ofNat_of_zero_le (show 0 ≤ a by omega)
                  have hjl : j < left.length := by omega
                  obtain ⟨ls, hl1, H⟩ := Option.bind_eq_some_iff.1 H
                  obtain ⟨ts, ht1, H⟩ := Option.bind_eq_some_iff.1 H
                  obtain ⟨g7, c7', e7, gb7, gl7, _, _⟩ := Kd.R_form HO7.out (by omega)
                  injection e7 with ea en ec
                  subst ea ec
                  clear en
                  obtain ⟨x, hxe⟩ : ∃ x, x = rd_T32 left (j : Int) := ⟨_, rfl⟩
                  obtain ⟨hc0, hc1, hf0, hf1⟩ := prow_cell HO7.out j hjl
                  rw [← hxe] at hc0 hc1 H hl1 ht1
                  have HH2 := Aside0.mk H
                  have HL1 := Aside0.mk hl1
                  have HT1 := Aside0.mk ht1
                  have q1 : (0 ≤ (j : Int)) = True := eq_true (by omega)
                  have q2 : ((j : Int) < (left.length : Int)) = True := eq_true (by omega)
                  have HS6 := Aside0.mk (show ∀ k, u6.ownBlock = some k → k < wr.heap.size from fun k hk => Kd.R_lt HO6.out k hk)
                  have GL7 := Aside0.mk gl7
                  have HO6a := Aside0.mk (Kd.R_alloc HO6.out (.cells #[.int .i64 x.f0, .string x.f1] 32))
                  have HO7a := Aside0.mk (Kd.R_alloc HO7.out (.cells #[.int .i64 x.f0, .string x.f1] 32))
                  have HOwn := Aside0.mk (blk_new wr (.cells #[.int .i64 x.f0, .string x.f1] 32))
                  have HBb := Aside0.mk (below_alloc HB.out (.cells #[.int .i64 x.f0, .string x.f1] 32))
                  clear H HH hl1 ht1 ca gb7 gl7 hxe ha1 ha2
                  go_wp2
                  clear hc0 hc1 hf0 hf1 HO6 HO7 HB
                  generalize wr.heap.size = Bo at *
                  go_loopg [13, 55] left.length (fun gg v13 v55 wr => ∃ (i : Nat) (rest : List S32), i ≤ left.length ∧ left.length - i ≤ gg ∧ v55 = .int .i64 (i : Int) ∧ Aside0 (∃ tl, restL x (m : Int) (j : Int) (left.drop i) i = some tl ∧ ls = rest ++ tl) ∧ Aside0 (rest.length ≤ i) ∧ Aside0 (Kd.R k32 32 wr w.heap.size (fun _ => True) v13 rest) ∧ Aside0 (Kd.R k32 32 wr w.heap.size (fun _ => True) u6 told) ∧ Aside0 (Kd.R k32 32 wr w.heap.size (fun _ => True) (.slice (some ⟨g7, 0, none⟩) left.length c7) left) ∧ Aside0 (wr.heap[Bo]? = some (.cells #[.int .i64 x.f0, .string x.f1] 32 (0, 0))) ∧ Aside0 (∀ k, v13.ownBlock = some k → Bo < k) ∧ Aside0 (Below w.heap.size w wr))
                  case atStart => exact ⟨0, [], Nat.zero_le _, by omega, by first | rfl | simp [goInt], ⟨⟨ls, by rw [List.drop_zero]; exact HL1.out, rfl⟩⟩, ⟨Nat.zero_le _⟩, ⟨Kd.R_nil _ _ _ _ _⟩, HO6a, HO7a, HOwn, ⟨fun k hk => by simp [Value.ownBlock] at hk⟩, HBb⟩
                  case round =>
                    clear HO6a HO7a HOwn HBb
                    obtain ⟨i, rest, hi, hig, rfl, HTL, HRL, HO13, HO6, HO7, HOwn, HS13, HB⟩ := hrel
                    by_cases hil : i < left.length
                    · have e1 : ((i : Int) < (left.length : Int)) = True := eq_true (by omega)
                      have e1b : decide ((i : Int) < (left.length : Int)) = true := decide_eq_true (by omega)
                      have e0 : (0 ≤ (i : Int)) = True := eq_true (by omega)
                      obtain ⟨z, hze⟩ : ∃ z, z = rd_T32 left (i : Int) := ⟨_, rfl⟩
                      obtain ⟨hc0, hc1, hf0, hf1⟩ := prow_cell HO7.out i hil
                      rw [← hze] at hc0 hc1
                      have er : rd_T32 left (i : Int) = left[i] := by simp [rd_T32, List.getD_eq_getElem?_getD, hil]
                      obtain ⟨tl, htl, hls⟩ := HTL.out
                      rw [List.drop_eq_getElem_cons hil, ← er, ← hze, restL] at htl
                      have hBoL : Bo < wr.heap.size := blk_lt HOwn.out
                      have n1 : Bo ≠ wr.heap.size := by omega
                      have hw : IntKind.i64.wrap ((i : Int) + 1) = ((i + 1 : Nat) : Int) := by
                        have := HT.out
                        simp only [IntKind.wrap, IntKind.signed, IntKind.bits]
                        simp
                        omega
                      have HW := Aside0.mk hw
                      clear hw HTL hze er
                      by_cases cij : (i : Int) = (j : Int)
                      · rw [if_pos cij] at htl
                        have c1 : ((i : Int) != (j : Int)) = false := bne_eq_false_iff_eq.mpr cij
                        have HTL2 := Aside0.mk (show ∃ tl, restL x (m : Int) (j : Int) (left.drop (i + 1)) (i + 1) = some tl ∧ ls = rest ++ tl from ⟨tl, htl, hls⟩)
                        clear htl hls cij
                        go_wp2
                        go_roundg (left.length - (i + 1))
                        case measure => omega
                        case rel => exact ⟨i + 1, rest, by omega, by omega, by first | rfl | exact congrArg (Value.int .i64) HW.out | exact congrArg (Value.int .i64) ((i64_w _).symm.trans HW.out), HTL2, ⟨by have := HRL.out; omega⟩, ⟨Kd.R_alloc HO13.out _⟩, ⟨Kd.R_alloc HO6.out _⟩, ⟨Kd.R_alloc HO7.out _⟩, ⟨blk_alloc HOwn.out _⟩, HS13, ⟨below_alloc HB.out _⟩⟩
                      · rw [if_neg cij] at htl
                        have c1 : ((i : Int) != (j : Int)) = true := bne_iff_ne.mpr cij
                        obtain ⟨y, hy, htl⟩ := Option.bind_eq_some_iff.1 htl
                        obtain ⟨tl2, htl2, htl⟩ := Option.bind_eq_some_iff.1 htl
                        injection htl with htl
                        obtain ⟨⟨y1, y2⟩, hy1, hy⟩ := Option.bind_eq_some_iff.1 hy
                        injection hy with hy
                        subst hy
                        have HL := Aside0.mk (fun W => spec_l10Less.calls z.f0 z.f1 x.f0 x.f1 (m : Int) y1 y2 W hy1)
                        have HTL2 := Aside0.mk (show ∃ tl, restL x (m : Int) (j : Int) (left.drop (i + 1)) (i + 1) = some tl ∧ ls = (rest ++ [(⟨y1, y2⟩ : S32)]) ++ tl from ⟨tl2, htl2, by rw [hls, ← htl]; simp⟩)
                        have ho0 : wr.cell? ⟨Bo, 0, none⟩ = some (.int .i64 x.f0) := (blk_cell HOwn.out 0).trans rfl
                        have ho1 : wr.cell? ⟨Bo, 1, none⟩ = some (.string x.f1) := (blk_cell HOwn.out 1).trans rfl
                        clear htl hls cij hy1 htl2
                        go_wp2_with fail
                        refine (HL.out _).mono ?_
                        rintro e w6 ⟨rfl, hb6⟩
                        have HOa := Aside0.mk (Kd.R_below (Kd.R_alloc HO13.out (.cells #[.int .i64 z.f0, .string z.f1] 32)) hb6)
                        have HO6c := Aside0.mk (Kd.R_below (Kd.R_alloc HO6.out (.cells #[.int .i64 z.f0, .string z.f1] 32)) hb6)
                        have HO7c := Aside0.mk (Kd.R_below (Kd.R_alloc HO7.out (.cells #[.int .i64 z.f0, .string z.f1] 32)) hb6)
                        have HOwnc := Aside0.mk ((hb6.block Bo (by simp; omega)).trans (blk_alloc HOwn.out (.cells #[.int .i64 z.f0, .string z.f1] 32)))
                        have HBa := Aside0.mk ((below_alloc HB.out (.cells #[.int .i64 z.f0, .string z.f1] 32)).trans (hb6.mono (below_alloc HB.out _).size))
                        clear HO13 HO6 HO7 HOwn HB hb6 hc0 hc1 hf0 hf1 ho0 ho1 hBoL n1
                        go_wp2_with (first | ((with_reducible refine gate_builtin (b := .append) (xs := #[.tmp 63, .tmp 68]) rfl ?_); at_builtin; refine Kd.R_append k32 (w0 := w) w.heap.size rfl (.tmp 63) (.tmp 68) 49 32 (.agg #[(.int .i64 0), (.string ⟨#[]⟩)]) 24 rfl Try.underlying49 info32 rfl (by decide) (by omega) u13 rest (⟨y1, y2⟩ : S32) [.int .i64 y1, .string y2] (fun _ => True) (fun _ => False) rfl rfl ?aP (fun _ hk => hk.elim) ?aF ?aO ?aB ?aS ?aL ?_; (case aP => exact k32_mkM _ _ _ (⟨y1, y2⟩ : S32)); (case aB => exact HBa.out); (case aF => exact (fun _ _ => trivial)); (case aO => exact HOa.out); (case aS => exact HBa.out.size); (case aL => have := And.intro HRL.out HT.out; omega); intro v8 w8 ho hb hg hat; have HO8 := Aside0.mk ho; have HB8 := Aside0.mk hb; have HG8 := Aside0.mk hg; have HAT8 := Aside0.mk hat; clear ho hb hg hat))
                        try go_wp2
                        go_roundg (left.length - (i + 1))
                        case measure => omega
                        case rel => exact ⟨i + 1, rest ++ [⟨y1, y2⟩], by omega, by omega, by first | rfl | exact congrArg (Value.int .i64) HW.out | exact congrArg (Value.int .i64) ((i64_w _).symm.trans HW.out), HTL2, ⟨by have := HRL.out; rw [List.length_append]; show rest.length + 1 ≤ _; omega⟩, HO8, ⟨prow_keep HO6c.out (fun k hk => HG8.out.block k (Kd.R_lt HO6c.out k hk) (fun e => by have h1 := HS13.out k e.symm; have h2 := HS6.out k hk; omega))⟩, ⟨prow_keep HO7c.out (fun k hk => HG8.out.block k (Kd.R_lt HO7c.out k hk) (fun e => by have h1 := HS13.out k e.symm; have h2 := GL7.out; have h3 : k = g7 := (by injection hk with hk; exact hk.symm); omega))⟩, ⟨blk_grown HOwnc.out HG8.out (fun e => by have h1 := HS13.out Bo e.symm; omega)⟩, ⟨fun k hk => by rcases HAT8.out with h1 | ⟨b, h1, h2⟩; exact HS13.out k (h1 ▸ hk); have h3 := blk_lt HOwnc.out; rw [h1] at hk; injection hk with hk; omega⟩, HB8⟩
                    · obtain rfl : i = left.length := by omega
                      have e1 : ((left.length : Int) < (left.length : Int)) = False := eq_false (by omega)
                      have e1b : decide ((left.length : Int) < (left.length : Int)) = false := decide_eq_false (by omega)
                      obtain ⟨tl, htl, hls⟩ := HTL.out
                      rw [List.drop_length, restL] at htl
                      injection htl with htl
                      rw [← htl, List.append_nil] at hls
                      subst hls
                      obtain ⟨A6, c6, e6⟩ := Kd.R_slice HO6.out
                      subst e6
                      have HT2 := Aside0.mk (mapOS_length _ _ _ HT1.out)
                      clear HTL htl HO7
                      go_wp2
                      go_loopg [74] told.length (fun gg v74 wr => ∃ (i : Nat) (cur : List S32), i ≤ told.length ∧ told.length - i ≤ gg ∧ v74 = .int .i64 (i : Int) ∧ Aside0 (cur.length = told.length) ∧ Aside0 (TurnedF (lessS x (m : Int)) ts cur i) ∧ Aside0 (Kd.R k32 32 wr w.heap.size (fun _ => True) (.slice A6 told.length c6) cur) ∧ Aside0 (Kd.R k32 32 wr w.heap.size (fun _ => True) u13 ls) ∧ Aside0 (wr.heap[Bo]? = some (.cells #[.int .i64 x.f0, .string x.f1] 32 (0, 0))) ∧ Aside0 (Below w.heap.size w wr))
                      case atStart => exact ⟨0, told, Nat.zero_le _, by omega, by first | rfl | simp [goInt], ⟨rfl⟩, ⟨TurnedF.start HT1.out⟩, HO6, HO13, HOwn, HB⟩
                      case round =>
                        clear HO6 HO13 HOwn HB
                        obtain ⟨i, cur, hi, hig, rfl, HCL, HTU, HO6, HO13, HOwn, HB⟩ := hrel
                        by_cases hil : i < told.length
                        · have e2 : ((i : Int) < (told.length : Int)) = True := eq_true (by omega)
                          have e2b : decide ((i : Int) < (told.length : Int)) = true := decide_eq_true (by omega)
                          have e0 : (0 ≤ (i : Int)) = True := eq_true (by omega)
                          obtain ⟨y, hy, htu⟩ := TurnedF.next HTU.out (show i < cur.length by have := HCL.out; omega)
                          obtain ⟨g6, c6', e6, gb6, gl6, _, _⟩ := Kd.R_form HO6.out (by have := HCL.out; omega)
                          injection e6 with ea en ec
                          subst ea ec
                          clear en
                          obtain ⟨z, hze⟩ : ∃ z, z = rd_T32 cur (i : Int) := ⟨_, rfl⟩
                          obtain ⟨hc0, hc1, hf0, hf1⟩ := prow_cell HO6.out i hil
                          rw [← hze] at hc0 hc1 hy
                          obtain ⟨⟨y1, y2⟩, hy1, hy⟩ := Option.bind_eq_some_iff.1 hy
                          injection hy with hy
                          subst hy
                          have HL := Aside0.mk (fun W => spec_l10Less.calls z.f0 z.f1 x.f0 x.f1 (m : Int) y1 y2 W hy1)
                          have HTN := Aside0.mk htu
                          have GB6 := Aside0.mk gb6
                          have ho0 : wr.cell? ⟨Bo, 0, none⟩ = some (.int .i64 x.f0) := (blk_cell HOwn.out 0).trans rfl
                          have ho1 : wr.cell? ⟨Bo, 1, none⟩ = some (.string x.f1) := (blk_cell HOwn.out 1).trans rfl
                          have hBoL : Bo < wr.heap.size := blk_lt HOwn.out
                          have n1 : Bo ≠ wr.heap.size := by omega
                          have n2 : g6 ≠ wr.heap.size := by omega
                          have hw : IntKind.i64.wrap ((i : Int) + 1) = ((i + 1 : Nat) : Int) := by
                            have h1 := HT.out
                            have h2 := D2.out
                            simp only [IntKind.wrap, IntKind.signed, IntKind.bits]
                            simp
                            omega
                          have HW := Aside0.mk hw
                          clear hw hze hy1 htu gb6 HTU
                          go_wp2_with fail
                          refine (HL.out _).mono ?_
                          rintro e w6 ⟨rfl, hb6⟩
                          have HOa := Aside0.mk (Kd.R_below (Kd.R_alloc HO6.out (.cells #[.int .i64 z.f0, .string z.f1] 32)) hb6)
                          have HO13c := Aside0.mk (Kd.R_below (Kd.R_alloc HO13.out (.cells #[.int .i64 z.f0, .string z.f1] 32)) hb6)
                          have HOwnc := Aside0.mk ((hb6.block Bo (by simp; omega)).trans (blk_alloc HOwn.out (.cells #[.int .i64 z.f0, .string z.f1] 32)))
                          have HBa := Aside0.mk ((below_alloc HB.out (.cells #[.int .i64 z.f0, .string z.f1] 32)).trans (hb6.mono (below_alloc HB.out _).size))
                          clear HO6 HO13 HOwn HB hb6 hc0 hc1 hf0 hf1 ho0 ho1 hBoL n1 n2
                          obtain ⟨hs0, hs1, hs2, hs3⟩ := prow_cell HOa.out i hil
                          have hg8 := grown_two (grown_set w6 g6 (i * 2) (.int .i64 y1)) (grown_set (w6.setCell ⟨g6, i * 2, none⟩ (.int .i64 y1)) g6 (i * 2 + 1) (.string y2))
                          have HG8 := Aside0.mk hg8
                          have h6 : g6 < Bo := HS6.out g6 rfl
                          have H6 := Aside0.mk h6
                          clear hg8 h6
                          go_wp2
                          go_roundg (told.length - (i + 1))
                          case measure => omega
                          case rel => exact ⟨i + 1, cur.set i ⟨y1, y2⟩, by omega, by omega, by first | rfl | exact congrArg (Value.int .i64) HW.out | exact congrArg (Value.int .i64) ((i64_w _).symm.trans HW.out), ⟨by rw [List.length_set]; exact HCL.out⟩, HTN, ⟨prow_put HOa.out i hil ⟨y1, y2⟩⟩, ⟨prow_keep HO13c.out (fun k hk => HG8.out.block k (Kd.R_lt HO13c.out k hk) (fun e => by have h1 := HS13.out k hk; have h2 := H6.out; injection e with e; omega))⟩, ⟨blk_grown HOwnc.out HG8.out (fun e => by have h2 := H6.out; injection e with e; omega)⟩, ⟨below_set (below_set HBa.out GB6.out) GB6.out⟩⟩
                        · obtain rfl : i = told.length := by omega
                          have e2 : ((told.length : Int) < (told.length : Int)) = False := eq_false (by omega)
                          have e2b : decide ((told.length : Int) < (told.length : Int)) = false := decide_eq_false (by omega)
                          have hye := TurnedF.done HTU.out (by have := HCL.out; omega)
                          subst hye
                          have ho0 : wr.cell? ⟨Bo, 0, none⟩ = some (.int .i64 x.f0) := (blk_cell HOwn.out 0).trans rfl
                          have ho1 : wr.cell? ⟨Bo, 1, none⟩ = some (.string x.f1) := (blk_cell HOwn.out 1).trans rfl
                          have HOa := HO6
                          have HBa := HB
                          clear HO6 HB HTU
                          go_wp2_with (first | ((with_reducible refine gate_builtin (b := .append) (xs := #[.tmp 87, .tmp 89]) rfl ?_); at_builtin; refine Kd.R_append k32 (w0 := w) w.heap.size rfl (.tmp 87) (.tmp 89) 49 32 (.agg #[(.int .i64 0), (.string ⟨#[]⟩)]) 24 rfl Try.underlying49 info32 rfl (by decide) (by omega) (.slice A6 told.length c6) ts x [.int .i64 x.f0, .string x.f1] (fun _ => True) (fun _ => False) rfl rfl ?aP (fun _ hk => hk.elim) ?aF ?aO ?aB ?aS ?aL ?_; (case aP => exact k32_mkM _ _ _ x); (case aB => exact HBa.out); (case aF => exact (fun _ _ => trivial)); (case aO => exact HOa.out); (case aS => exact HBa.out.size); (case aL => have := And.intro HCL.out (And.intro HT.out D2.out); omega); intro v8 w8 ho hb hg hat; have HO8 := Aside0.mk ho; have HB8 := Aside0.mk hb; have HG8 := Aside0.mk hg; have HAT8 := Aside0.mk hat; clear ho hb hg hat))
                          try go_wp2
                          try rw [EW2.out]
                          go_roundg m
                          case measure => omega
                          case rel => exact ⟨ts ++ [x], ls, m, Nat.le_refl _, by first | rfl | exact congrArg (Value.int .i64) EW2.out, ⟨by have h1 := HT.out; have h2 := HT2.out; have h3 := HRL.out; rw [List.length_append]; exact ⟨by show ts.length + 1 + m ≤ n; omega, by omega⟩⟩, HH2, HO8, ⟨prow_keep HO13.out (fun k hk => HG8.out.block k (Kd.R_lt HO13.out k hk) (fun e => by have h1 := HS13.out k hk; have h2 := HS6.out k e.symm; omega))⟩, ⟨fun k hk e => by rcases HAT8.out with h1 | ⟨b, h1, h2⟩; exact absurd (HS13.out k e) (by have := HS6.out k (h1 ▸ hk); omega); exact absurd (Kd.R_lt HO13.out k e) (by rw [h1] at hk; injection hk with hk; omega)⟩, HB8⟩
      · rw [if_neg d3] at h
        cases h
    · rw [if_neg d2] at h
      cases h
  · rw [if_neg d1] at h
    cases h

/-! ### spec_l10Of: function 27 -/
def spec_l10Of.l0 : Nat → List (S32) → List Int → Int → Int → Option ((List (S32)))
  | 0, _, _, _, _ => none
  | k + 1, x3, x6, x7, x8 => if x8 < x7 then (if 0 ≤ x8 then (if x8 < (x6.length : Int) then (if x3.length < 5864062014805 then (spec_l10Of.l0 k (x3 ++ [(⟨rd x6 x8, (⟨#[]⟩ : ByteArray)⟩ : S32)]) x6 x7 (wrap64 (x8 + 1))) else (none)) else (none)) else (none)) else (some x3)
def spec_l10Of.f (k : Nat) (l0 : List Int) : Option ((List (S32))) := spec_l10Of.l0 k ([] : List (S32)) l0 (l0.length : Int) 0
theorem spec_l10Of.mono_l : ∀ k, (∀ y0 y1 y2 y3, LeO (spec_l10Of.l0 k y0 y1 y2 y3) (spec_l10Of.l0 (k + 1) y0 y1 y2 y3))
  | 0 => fun _ _ _ _ r h => by simp [spec_l10Of.l0] at h
  | k + 1 => by
    have ih0 := spec_l10Of.mono_l k
    · intro y0 y1 y2 y3
      unfold spec_l10Of.l0
      repeat' first
      | (with_reducible exact ih0 _ _ _ _)
      | (with_reducible exact LeO.refl _)
      | (with_reducible exact LeO.none _)
      | (with_reducible refine LeO.ite ?_ ?_)
      | (with_reducible refine LeO.bind ?_ (fun _ => ?_))
      | exact ih0 _ _ _ _
      | exact LeO.none _
      | refine LeO.ite ?_ ?_
      | refine LeO.bind ?_ (fun _ => ?_)
theorem spec_l10Of.mono : ∀ a0 k, LeO (spec_l10Of.f k a0) (spec_l10Of.f (k + 1) a0) := by
  intro a0 k
  have ih0 := spec_l10Of.mono_l k
  unfold spec_l10Of.f
  repeat' first
      | (with_reducible exact ih0 _ _ _ _)
      | (with_reducible exact LeO.refl _)
      | (with_reducible exact LeO.none _)
      | (with_reducible refine LeO.ite ?_ ?_)
      | (with_reducible refine LeO.bind ?_ (fun _ => ?_))
      | exact ih0 _ _ _ _
      | exact LeO.none _
      | refine LeO.ite ?_ ?_
      | refine LeO.bind ?_ (fun _ => ?_)
set_option maxHeartbeats 8000000 in
set_option maxRecDepth 100000 in
theorem spec_l10Of.calls (k : Nat) (A0 : Option Addr) (c0 : Nat) (l0 : List Int) (r : List (S32)) (w : World) (hr0 : Kd.C (Kd.int .i64) w A0 l0.length l0) (hc0 : l0.length ≤ c0) (h : spec_l10Of.f k l0 = some r) :
    Calls Try.prog 27 #[.slice A0 l0.length c0] w fun e w' => ∃ v0_ : Value, e = .returned (v0_) ∧ Kd.R k32 32 w' w.heap.size (fun _ => True) v0_ r ∧ Below w.heap.size w w' := by
  have hu32 := Try.underlying32
  have HR0 := Aside0.mk hr0
  have HC0 := Aside0.mk hc0
  clear hr0 hc0
  have HB := Aside0.mk (Below.refl w.heap.size w)
  have H : (spec_l10Of.l0 k ([] : List (S32)) l0 (l0.length : Int) 0) = some r := h
  clear h
  have H' := Aside0.mk H
  clear H
  go_enter Try.func27, Try.ntmps27
  go_wp2
  go_loopg [3, 8] k (fun kq v3 v8 w' => ∃ (x3_1 : List (S32)) (x8_1 : Int), v8 = .int .i64 x8_1 ∧ Aside0 (spec_l10Of.l0 kq x3_1 l0 (l0.length : Int) x8_1 = some r) ∧ Aside0 (kq ≤ k) ∧ Aside0 (Kd.R k32 32 w' w.heap.size (fun _ => True) v3 x3_1) ∧ Aside0 (Below w.heap.size w w'))
  case atStart => exact ⟨(([] : List (S32))), (0), (by first | rfl | (simp; done) | (simp [*]; done)), H', ⟨Nat.le_refl _⟩, ⟨by first | exact Kd.R_nil _ _ _ _ _ | exact Kd.N_nil _ _ _ _ _ | exact Kd.V_nil _ _ _ _ _ | exact Kd.Q_nil _ _ _ _ _ | exact Kd.S_nil _ _ _ _ _⟩, ⟨by repeat (first | (with_reducible first | exact HB.out | apply below_alloc | apply pw_below_drewN | apply below_drew1) | exact HB.out)⟩⟩
  case round =>
    clear H'
    obtain ⟨x3_1, x8_1, rfl, HA, HK1, HO_3, HB⟩ := hrel
    cases gk with
    | zero => exact absurd HA.out (by simp [spec_l10Of.l0])
    | succ k1 =>
      have H := HA.out
      clear HA
      simp only [spec_l10Of.l0] at H
      by_cases c2 : x8_1 < (l0.length : Int)
      · rw [if_pos c2] at H
        have c2b0 : decide (x8_1 < (l0.length : Int)) = true := decide_eq_true c2
        clear c2
        by_cases c3 : 0 ≤ x8_1
        · rw [if_pos c3] at H
          have c3b0 : decide (0 ≤ x8_1) = true := decide_eq_true c3
          clear c3
          by_cases c4 : x8_1 < (l0.length : Int)
          · rw [if_pos c4] at H
            have c4b0 : decide (x8_1 < (l0.length : Int)) = true := decide_eq_true c4
            clear c4
            by_cases c5 : x3_1.length < 5864062014805
            · rw [if_pos c5] at H
              have LMc5 := Aside0.mk c5
              clear c5
              obtain ⟨y110, hy110⟩ : ∃ y_ : List (S32), y_ = (x3_1 ++ [(⟨rd l0 x8_1, (⟨#[]⟩ : ByteArray)⟩ : S32)]) := ⟨_, rfl⟩
              replace H : (spec_l10Of.l0 k1 y110 l0 (l0.length : Int) (wrap64 (x8_1 + 1))) = some r := by first | (rw [hy110]; with_reducible exact H) | (have H2_ := (Option.bind_some _ _).symm.trans H; rw [hy110]; with_reducible exact H2_) | (have H2_ := (Option.bind_some _ _).symm.trans H; with_reducible exact H2_) | with_reducible exact H | (rw [hy110]; exact H) | exact H
              have Ny110 := Aside0.mk hy110
              clear hy110
              have H' := Aside0.mk H
              clear H
              have p109 : 0 ≤ (x8_1 : Int) := of_decide_eq_true (by first | (with_reducible assumption) | assumption)
              have q109 : x8_1 < (l0.length : Int) := of_decide_eq_true (by first | (with_reducible assumption) | assumption)
              obtain ⟨ad109, e109, hx109_0⟩ := Kd.at_int HR0.out x8_1 p109 q109
              cases e109
              replace hx109_0 := (HB.out.cell (World.block_lt_of_cell? w _ hx109_0)).trans hx109_0
              replace p109 := eq_true p109
              replace q109 := eq_true q109
              go_wp2_with (first | ((with_reducible refine gate_builtin (b := .append) (xs := #[.tmp 12, .tmp 15]) rfl ?_); at_builtin; refine Kd.R_append k32 (w0 := w) w.heap.size rfl (.tmp 12) (.tmp 15) 49 32 (.agg #[(.int .i64 0), (.string ⟨#[]⟩)]) 24 rfl Try.underlying49 info32 rfl (by decide) (by omega) u3 x3_1 (⟨rd l0 x8_1, (⟨#[]⟩ : ByteArray)⟩ : S32) [.int .i64 (rd l0 x8_1), .string (⟨#[]⟩ : ByteArray)] (fun _ => True) (fun _ => False) rfl rfl ?aP (fun _ hk => hk.elim) ?aF ?aO ?aB ?aS ?aL ?_; (case aP => exact k32_mkM _ _ _ (⟨rd l0 x8_1, (⟨#[]⟩ : ByteArray)⟩ : S32)); (case aB => exact (by repeat (first | (with_reducible first | exact HB.out | apply below_alloc | apply pw_below_drewN | apply below_drew1) | exact HB.out))); (case aF => exact (fun _ _ => trivial)); (case aO => exact (by (with_reducible repeat (first | apply Kd.R_alloc | apply Kd.R_drewN | apply Kd.R_drew)); exact HO_3.out)); (case aS => exact (below_size (by repeat (first | (with_reducible first | exact HB.out | apply below_alloc | apply pw_below_drewN | apply below_drew1) | exact HB.out)))); (case aL => have := LMc5.out; omega); intro v111 w6 ho hb hg hat; rw [← Ny110.out] at ho; have n0_ := Aside0.mk (hb); have n1_ := Aside0.mk (ho); clear HB; clear HO_3; have HB := n0_; have HO112 := n1_; clear n0_ n1_; clear ho hb hg hat))
              go_roundg k1
              case measure => have := HK1.out; omega
              case rel => exact ⟨(y110), (wrap64 (x8_1 + 1)), (by first | rfl | (simp; done) | (simp [*]; done)), H', ⟨by have := HK1.out; omega⟩, ⟨by (with_reducible repeat (first | apply Kd.R_alloc | apply Kd.R_drewN | apply Kd.R_drew)); exact HO112.out⟩, ⟨by repeat (first | (with_reducible first | exact HB.out | apply below_alloc | apply pw_below_drewN | apply below_drew1) | exact HB.out)⟩⟩
            · rw [if_neg c5] at H
              exact absurd H (by simp)
          · rw [if_neg c4] at H
            exact absurd H (by simp)
        · rw [if_neg c3] at H
          exact absurd H (by simp)
      · rw [if_neg c2] at H
        have c2b0 : decide (x8_1 < (l0.length : Int)) = false := decide_eq_false c2
        clear c2
        obtain rfl := Option.some.inj H
        go_wp2
        go_ret
        exact ⟨_, by first | rfl | (simp [errW_none, errW_some] <;> rfl) | (simp [*, errW_none, errW_some] <;> rfl), by (with_reducible repeat (first | apply Kd.R_alloc | apply Kd.R_drewN | apply Kd.R_drew)); exact HO_3.out, by repeat (first | (with_reducible first | exact HB.out | apply below_alloc | apply pw_below_drewN | apply below_drew1) | exact HB.out)⟩

/-! ### spec_ReduceMasks: function 6 -/
def spec_ReduceMasks.l0 : Nat → List Int → List (S32) → Int → Int → Option (List Int × Bool)
  | 0, _, _, _, _ => none
  | k + 1, x8, x22, x23, x24 => if x24 < x23 then (if 0 ≤ x24 then (if x24 < (x22.length : Int) then (if x8.length < 17592186044416 then (spec_ReduceMasks.l0 k (x8 ++ [(rd_T32 x22 x24).f0]) x22 x23 (wrap64 (x24 + 1))) else (none)) else (none)) else (none)) else (some (x8, true))
def spec_ReduceMasks.f (k : Nat) (a0 : Int) (l1 : List Int) : Option (List Int × Bool) := (spec_l10Masks.f k a0 l1).bind fun t113 => (if t113 = true then ((spec_l10Of.f k l1).bind fun t114 => ((spec_l10Reduce.f a0 t114).bind fun bt117 => (spec_ReduceMasks.l0 k ([] : List Int) bt117.1 (bt117.1.length : Int) 0))) else (some (([] : List Int), false)))
theorem spec_ReduceMasks.mono_l : ∀ k, (∀ y0 y1 y2 y3, LeO (spec_ReduceMasks.l0 k y0 y1 y2 y3) (spec_ReduceMasks.l0 (k + 1) y0 y1 y2 y3))
  | 0 => fun _ _ _ _ r h => by simp [spec_ReduceMasks.l0] at h
  | k + 1 => by
    have ih0 := spec_ReduceMasks.mono_l k
    · intro y0 y1 y2 y3
      unfold spec_ReduceMasks.l0
      repeat' first
      | (with_reducible exact ih0 _ _ _ _)
      | (with_reducible exact spec_l10Masks.mono _ _ _)
      | (with_reducible exact spec_l10Of.mono _ _)
      | (with_reducible exact LeO.refl _)
      | (with_reducible exact LeO.none _)
      | (with_reducible refine LeO.ite ?_ ?_)
      | (with_reducible refine LeO.bind ?_ (fun _ => ?_))
      | exact ih0 _ _ _ _
      | exact spec_l10Masks.mono _ _ _
      | exact spec_l10Of.mono _ _
      | exact LeO.none _
      | refine LeO.ite ?_ ?_
      | refine LeO.bind ?_ (fun _ => ?_)
theorem spec_ReduceMasks.mono : ∀ a0 a1 k, LeO (spec_ReduceMasks.f k a0 a1) (spec_ReduceMasks.f (k + 1) a0 a1) := by
  intro a0 a1 k
  have ih0 := spec_ReduceMasks.mono_l k
  unfold spec_ReduceMasks.f
  repeat' first
      | (with_reducible exact ih0 _ _ _ _)
      | (with_reducible exact spec_l10Masks.mono _ _ _)
      | (with_reducible exact spec_l10Of.mono _ _)
      | (with_reducible exact LeO.refl _)
      | (with_reducible exact LeO.none _)
      | (with_reducible refine LeO.ite ?_ ?_)
      | (with_reducible refine LeO.bind ?_ (fun _ => ?_))
      | exact ih0 _ _ _ _
      | exact spec_l10Masks.mono _ _ _
      | exact spec_l10Of.mono _ _
      | exact LeO.none _
      | refine LeO.ite ?_ ?_
      | refine LeO.bind ?_ (fun _ => ?_)
set_option maxHeartbeats 8000000 in
set_option maxRecDepth 100000 in
theorem spec_ReduceMasks.calls (k : Nat) (a0 : Int) (A1 : Option Addr) (c1 : Nat) (l1 : List Int) (r1 : List Int) (r2 : Bool) (w : World) (hr1 : Kd.C (Kd.int .i64) w A1 l1.length l1) (hc1 : l1.length ≤ c1) (h : spec_ReduceMasks.f k a0 l1 = some (r1, r2)) :
    Calls Try.prog 6 #[.int .i64 a0, .slice A1 l1.length c1] w fun e w' => ∃ v0_ : Value, e = .returned (.tuple #[v0_, .bool r2]) ∧ Kd.R (Kd.int .i64) 3 w' w.heap.size (fun _ => True) v0_ r1 ∧ Below w.heap.size w w' := by
  have hu32 := Try.underlying32
  have HR1 := Aside0.mk hr1
  have HC1 := Aside0.mk hc1
  clear hr1 hc1
  have HB := Aside0.mk (Below.refl w.heap.size w)
  have H : ((spec_l10Masks.f k a0 l1).bind fun t113 => (if t113 = true then ((spec_l10Of.f k l1).bind fun t114 => ((spec_l10Reduce.f a0 t114).bind fun bt117 => (spec_ReduceMasks.l0 k ([] : List Int) bt117.1 (bt117.1.length : Int) 0))) else (some (([] : List Int), false)))) = some (r1, r2) := h
  clear h
  replace H := Option.bind_eq_some_iff.mp H
  obtain ⟨t113, A30, H⟩ := H
  replace H : (if t113 = true then ((spec_l10Of.f k l1).bind fun t114 => ((spec_l10Reduce.f a0 t114).bind fun bt117 => (spec_ReduceMasks.l0 k ([] : List Int) bt117.1 (bt117.1.length : Int) 0))) else (some (([] : List Int), false))) = some (r1, r2) := H
  have A3 := Aside0.mk A30
  clear A30
  by_cases c4 : t113 = true
  · subst c4
    have H1 : ((spec_l10Of.f k l1).bind fun t114 => ((spec_l10Reduce.f a0 t114).bind fun bt117 => (spec_ReduceMasks.l0 k ([] : List Int) bt117.1 (bt117.1.length : Int) 0))) = some (r1, r2) := by rw [if_pos rfl] at H; exact H
    clear H
    have H := H1
    clear H1
    replace H := Option.bind_eq_some_iff.mp H
    obtain ⟨t114, A50, H⟩ := H
    replace H : ((spec_l10Reduce.f a0 t114).bind fun bt117 => (spec_ReduceMasks.l0 k ([] : List Int) bt117.1 (bt117.1.length : Int) 0)) = some (r1, r2) := H
    have A5 := Aside0.mk A50
    clear A50
    replace H := Option.bind_eq_some_iff.mp H
    obtain ⟨⟨t117, t118⟩, A60, H⟩ := H
    replace H : (spec_ReduceMasks.l0 k ([] : List Int) t117 (t117.length : Int) 0) = some (r1, r2) := H
    have A6 := Aside0.mk A60
    clear A60
    have H' := Aside0.mk H
    clear H
    go_enter Try.func6, Try.ntmps6
    go_wp2_with (first | ((with_reducible refine gate_callee (f := 25) rfl ?_); refine goesL_ (some 13) rfl rfl Try.func25 (by kernel_rfl) rfl #[.int .i64 a0, .slice A1 l1.length c1] rfl (by (try simp only [List.map_toArray, List.map_cons, List.map_nil]); first | done | rfl | (simp only [List.length_drop, List.length_take]; rfl)) ?_; (with_reducible refine (spec_l10Masks.calls k a0 _ _ l1 true _ ?side1 ?side2 A3.out).mono ?_); (case side1 => repeat (first | exact HR1.out | (with_reducible refine Kd.C_alloc ?_ _) | (with_reducible refine Kd.C_drewN ?_ _) | (with_reducible refine Kd.C_drew ?_))); (case side2 => exact HC1.out); rintro e w' ⟨rfl, ⟨nd, rfl⟩⟩; refine ⟨_, rfl, ?_⟩) | ((with_reducible refine gate_callee (f := 27) rfl ?_); refine goesL_ (some 18) rfl rfl Try.func27 (by kernel_rfl) rfl #[.slice A1 l1.length c1] rfl (by (try simp only [List.map_toArray, List.map_cons, List.map_nil]); first | done | rfl | (simp only [List.length_drop, List.length_take]; rfl)) ?_; (with_reducible refine (spec_l10Of.calls k _ _ l1 t114 _ ?side1 ?side2 A5.out).mono ?_); (case side1 => repeat (first | exact HR1.out | (with_reducible refine Kd.C_alloc ?_ _) | (with_reducible refine Kd.C_drewN ?_ _) | (with_reducible refine Kd.C_drew ?_))); (case side2 => exact HC1.out); rintro e w7 ⟨v115, rfl, ho0, hb⟩; refine ⟨_, rfl, ?_⟩; have n0_ := Aside0.mk (Kd.R_lower ho0 (below_size (by repeat (first | (with_reducible first | exact HB.out | apply below_alloc | apply pw_below_drewN | apply below_drew1) | exact HB.out)))); have n1_ := Aside0.mk (below_step (by repeat (first | (with_reducible first | exact HB.out | apply below_alloc | apply pw_below_drewN | apply below_drew1) | exact HB.out)) hb); clear HB; have HO116 := n0_; have HB := n1_; clear n0_ n1_; (try clear hb); (try clear hb2); (try clear hk); (try clear hi); (try clear ho0); obtain ⟨Ao8, co8, eo8⟩ := Kd.R_slice HO116.out; subst eo8) | ((with_reducible refine gate_callee (f := 26) rfl ?_); refine goesL_ (some 19) rfl rfl Try.func26 (by kernel_rfl) rfl #[.int .i64 a0, .slice Ao8 t114.length co8] rfl (by (try simp only [List.map_toArray, List.map_cons, List.map_nil]); first | done | rfl | (simp only [List.length_drop, List.length_take]; rfl)) ?_; (with_reducible refine (spec_l10Reduce.calls a0 _ _ t114 t117 t118 _ ?side1 ?side2 A6.out).mono ?_); (case side1 => repeat (first | exact (Kd.R_reads' HO116.out).2.2 | (with_reducible refine Kd.C_alloc ?_ _) | (with_reducible refine Kd.C_drewN ?_ _) | (with_reducible refine Kd.C_drew ?_))); (case side2 => exact (Kd.R_reads' HO116.out).2.1); rintro e w9 ⟨v119, v121, rfl, ho0, ho1, hb⟩; refine ⟨_, rfl, ?_⟩; have n0_ := Aside0.mk (Kd.R_mono (Kd.R_told (Kd.R_told (Kd.R_old (by (with_reducible repeat (first | apply Kd.R_alloc | apply Kd.R_drewN | apply Kd.R_drew)); exact HO116.out) hb) (Kd.R_base ho0)) (Kd.R_base ho1)) (fun _ h_ => h_.1)); have n1_ := Aside0.mk (Kd.R_lower (Kd.R_new' ho0 (Kd.R_lt (by (with_reducible repeat (first | apply Kd.R_alloc | apply Kd.R_drewN | apply Kd.R_drew)); exact HO116.out))) (below_size (by repeat (first | (with_reducible first | exact HB.out | apply below_alloc | apply pw_below_drewN | apply below_drew1) | exact HB.out)))); have n2_ := Aside0.mk (Kd.R_lower (Kd.R_new' ho1 (Kd.R_lt (by (with_reducible repeat (first | apply Kd.R_alloc | apply Kd.R_drewN | apply Kd.R_drew)); exact HO116.out))) (below_size (by repeat (first | (with_reducible first | exact HB.out | apply below_alloc | apply pw_below_drewN | apply below_drew1) | exact HB.out)))); have n3_ := Aside0.mk (below_step (by repeat (first | (with_reducible first | exact HB.out | apply below_alloc | apply pw_below_drewN | apply below_drew1) | exact HB.out)) hb); clear HO116; clear HB; have HO116 := n0_; have HO120 := n1_; have HO122 := n2_; have HB := n3_; clear n0_ n1_ n2_ n3_; (try clear hb); (try clear hb2); (try clear hk); (try clear hi); (try clear ho0); (try clear ho1); obtain ⟨Ao10, co10, eo10⟩ := Kd.R_slice HO120.out; subst eo10))
    go_loopg [8, 24] k (fun kq v8 v24 w' => ∃ (x8_1 : List Int) (x24_1 : Int), v24 = .int .i64 x24_1 ∧ Aside0 (spec_ReduceMasks.l0 kq x8_1 t117 (t117.length : Int) x24_1 = some (r1, r2)) ∧ Aside0 (kq ≤ k) ∧ Aside0 (Kd.R (Kd.int .i64) 3 w' w.heap.size (fun _ => True) v8 x8_1) ∧ Aside0 (Kd.R k32 32 w' w.heap.size (fun _ => True) (.slice Ao10 t117.length co10) t117) ∧ Aside0 (Below w.heap.size w w'))
    case atStart => exact ⟨(([] : List Int)), (0), (by first | rfl | (simp; done) | (simp [*]; done)), H', ⟨Nat.le_refl _⟩, ⟨by first | exact Kd.R_nil _ _ _ _ _ | exact Kd.N_nil _ _ _ _ _ | exact Kd.V_nil _ _ _ _ _ | exact Kd.Q_nil _ _ _ _ _ | exact Kd.S_nil _ _ _ _ _⟩, ⟨by (with_reducible repeat (first | apply Kd.R_alloc | apply Kd.R_drewN | apply Kd.R_drew)); exact Kd.R_mono HO120.out (fun _ hk => trivial)⟩, ⟨by repeat (first | (with_reducible first | exact HB.out | apply below_alloc | apply pw_below_drewN | apply below_drew1) | exact HB.out)⟩⟩
    case round =>
      clear H'
      try clear c1
      try clear c2
      try clear p2
      try clear c4
      try clear c6
      obtain ⟨x8_1, x24_1, rfl, HA, HK1, HO_8, HO_22, HB⟩ := hrel
      cases gk with
      | zero => exact absurd HA.out (by simp [spec_ReduceMasks.l0])
      | succ k1 =>
        have H := HA.out
        clear HA
        simp only [spec_ReduceMasks.l0] at H
        by_cases c11 : x24_1 < (t117.length : Int)
        · rw [if_pos c11] at H
          have c11b0 : decide (x24_1 < (t117.length : Int)) = true := decide_eq_true c11
          clear c11
          by_cases c12 : 0 ≤ x24_1
          · rw [if_pos c12] at H
            have c12b0 : decide (0 ≤ x24_1) = true := decide_eq_true c12
            clear c12
            by_cases c13 : x24_1 < (t117.length : Int)
            · rw [if_pos c13] at H
              have c13b0 : decide (x24_1 < (t117.length : Int)) = true := decide_eq_true c13
              clear c13
              by_cases c14 : x8_1.length < 17592186044416
              · rw [if_pos c14] at H
                have LMc14 := Aside0.mk c14
                clear c14
                obtain ⟨y125, hy125⟩ : ∃ y_ : List Int, y_ = (x8_1 ++ [(rd_T32 t117 x24_1).f0]) := ⟨_, rfl⟩
                replace H : (spec_ReduceMasks.l0 k1 y125 t117 (t117.length : Int) (wrap64 (x24_1 + 1))) = some (r1, r2) := by first | (rw [hy125]; with_reducible exact H) | (have H2_ := (Option.bind_some _ _).symm.trans H; rw [hy125]; with_reducible exact H2_) | (have H2_ := (Option.bind_some _ _).symm.trans H; with_reducible exact H2_) | with_reducible exact H | (rw [hy125]; exact H) | exact H
                have Ny125 := Aside0.mk hy125
                clear hy125
                have H' := Aside0.mk H
                clear H
                have p123 : 0 ≤ (x24_1 : Int) := of_decide_eq_true (by first | (with_reducible assumption) | assumption)
                have q123 : x24_1 < (t117.length : Int) := of_decide_eq_true (by first | (with_reducible assumption) | assumption)
                obtain ⟨ad123, e123, hx123_0, hx123_1⟩ := at_T32 (Kd.R_reads' HO_22.out).2.2 x24_1 p123 q123
                cases e123
                replace p123 := eq_true p123
                replace q123 := eq_true q123
                go_wp2_with (first | ((with_reducible refine gate_dst (N := 10) rfl ?_); refine box_event ?hg (N := 10) ?hd (cs := #[.int .i64 0, .string (⟨#[]⟩ : ByteArray)]) (t := 32) ?hr ?_; (case hd => rfl); (case hg => rfl); (case hr => first | (go_simp; done) | (go_simp; rfl)); intro gb124 hg w15 hbox hb; have n0_ := Aside0.mk (Kd.R_below (by (with_reducible repeat (first | apply Kd.R_alloc | apply Kd.R_drewN | apply Kd.R_drew)); exact HO_8.out) hb); have n1_ := Aside0.mk (Kd.R_below (Kd.R_elderB (by (with_reducible repeat (first | apply Kd.R_alloc | apply Kd.R_drewN | apply Kd.R_drew)); exact HO_22.out) gb124 (Nat.le_of_eq hg.symm)) hb); have n2_ := Aside0.mk (below_step (by repeat (first | (with_reducible first | exact HB.out | apply below_alloc | apply pw_below_drewN | apply below_drew1) | exact HB.out)) hb); have n3_ := Aside0.mk (hbox); have n4_ := Aside0.mk ((by rw [hg]; exact (below_size (by repeat (first | (with_reducible first | exact HB.out | apply below_alloc | apply pw_below_drewN | apply below_drew1) | exact HB.out))) : w.heap.size ≤ gb124)); have n5_ := Aside0.mk ((by rw [hg]; exact (below_size (by repeat (first | (with_reducible first | exact HB.out | apply below_alloc | apply pw_below_drewN | apply below_drew1) | exact HB.out))) : w.heap.size ≤ gb124)); clear HO_8; clear HO_22; clear HB; have HO_8 := n0_; have HO_22 := n1_; have HB := n2_; have BK124 := n3_; have GW124 := n4_; have GE124 := n5_; clear n0_ n1_ n2_ n3_ n4_ n5_; clear hb hbox hg; have hcz16_0 : w15.cell? ⟨gb124, 0, none⟩ = some (.int .i64 0) := (blk_cell BK124.out 0).trans rfl; have hcz16_1 : w15.cell? ⟨gb124, 1, none⟩ = some (.string (⟨#[]⟩ : ByteArray)) := (blk_cell BK124.out 1).trans rfl; have hfz16_0 := blk_frozen BK124.out 0; have hfz16_1 := blk_frozen BK124.out 1) | ((with_reducible refine gate_builtin (b := .append) (xs := #[.tmp 28, .tmp 31]) rfl ?_); at_builtin; refine Kd.R_append (Kd.int .i64) (w0 := w) w.heap.size rfl (.tmp 28) (.tmp 31) 22 3 (.int .i64 0) 8 rfl Try.underlying22 info3 rfl (by decide) (by omega) u8 x8_1 ((rd_T32 t117 x24_1).f0) [.int .i64 ((rd_T32 t117 x24_1).f0)] (fun _ => True) (fun _ => False) rfl (by first | (go_simp; done) | (go_simp; rfl)) ?aP (fun _ hk => hk.elim) ?aF ?aO ?aB ?aS ?aL ?_; (case aP => exact rfl); (case aB => exact (by repeat (first | (with_reducible first | exact HB.out | apply below_alloc | apply pw_below_drewN | apply below_drew1 | refine below_set ?_ GE124.out) | exact HB.out))); (case aF => exact (fun _ _ => trivial)); (case aO => exact (by (with_reducible repeat (first | apply Kd.R_alloc | apply Kd.R_drewN | apply Kd.R_drew)); exact Kd.R_mono (Kd.R_far (p := ⟨gb124, 1, none⟩) (Kd.R_far (p := ⟨gb124, 0, none⟩) (Kd.R_types HO_8.out BK124.out (by decide)) (fun _ hk => hk.2) (.int .i64 ((rd_T32 t117 x24_1).f0))) (fun _ hk => hk.2) (.string ((rd_T32 t117 x24_1).f1))) (fun _ hk => trivial))); (case aS => exact (below_size (by repeat (first | (with_reducible first | exact HB.out | apply below_alloc | apply pw_below_drewN | apply below_drew1 | refine below_set ?_ GE124.out) | exact HB.out)))); (case aL => have := LMc14.out; omega); intro v126 w17 ho hb hg hat; rw [← Ny125.out] at ho; have n0_ := Aside0.mk (Kd.R_over' (by (with_reducible repeat (first | apply Kd.R_alloc | apply Kd.R_drewN | apply Kd.R_drew)); exact (Kd.R_mono (Kd.R_far (p := ⟨gb124, 1, none⟩) (Kd.R_far (p := ⟨gb124, 0, none⟩) (Kd.R_mono HO_22.out (fun k_ hk => (⟨hk, hk.2⟩ : _ ∧ k_ ≠ gb124))) (fun _ hk => hk.2) (.int .i64 ((rd_T32 t117 x24_1).f0))) (fun _ hk => hk.2) (.string ((rd_T32 t117 x24_1).f1))) (fun _ h_ => h_.1))) (Kd.R_typed (by (with_reducible repeat (first | apply Kd.R_alloc | apply Kd.R_drewN | apply Kd.R_drew)); exact (Kd.R_mono (Kd.R_far (p := ⟨gb124, 1, none⟩) (Kd.R_far (p := ⟨gb124, 0, none⟩) (Kd.R_types HO_8.out BK124.out (by decide)) (fun _ hk => hk.2) (.int .i64 ((rd_T32 t117 x24_1).f0))) (fun _ hk => hk.2) (.string ((rd_T32 t117 x24_1).f1))) (fun _ h_ => h_.1)))) (by decide) hg); have n1_ := Aside0.mk (blk_grown (g := gb124) (o := .cells #[.int .i64 ((rd_T32 t117 x24_1).f0), .string ((rd_T32 t117 x24_1).f1)] 32 (0, 0)) (by (with_reducible repeat (first | refine blk_drewN ?_ _ | refine blk_drew ?_ | refine blk_alloc ?_ _)); refine blk_put (cs := #[.int .i64 ((rd_T32 t117 x24_1).f0), .string (⟨#[]⟩ : ByteArray)]) ?_ 1 _ rfl; (with_reducible repeat (first | refine blk_drewN ?_ _ | refine blk_drew ?_ | refine blk_alloc ?_ _)); refine blk_put (cs := #[.int .i64 0, .string (⟨#[]⟩ : ByteArray)]) ?_ 0 _ rfl; (with_reducible repeat (first | refine blk_drewN ?_ _ | refine blk_drew ?_ | refine blk_alloc ?_ _)); exact BK124.out) hg (Kd.R_ne HO_8.out BK124.out (by decide))); have n2_ := Aside0.mk (hb); have n3_ := Aside0.mk (ho); clear HO_22; clear BK124; clear HB; clear HO_8; have HO_22 := n0_; have BK124 := n1_; have HB := n2_; have HO127 := n3_; clear n0_ n1_ n2_ n3_; clear ho hb hg hat))
                go_roundg k1
                case measure => have := HK1.out; omega
                case rel => exact ⟨(y125), (wrap64 (x24_1 + 1)), (by first | rfl | (simp; done) | (simp [*]; done)), H', ⟨by have := HK1.out; omega⟩, ⟨by (with_reducible repeat (first | apply Kd.R_alloc | apply Kd.R_drewN | apply Kd.R_drew)); exact HO127.out⟩, ⟨by (with_reducible repeat (first | apply Kd.R_alloc | apply Kd.R_drewN | apply Kd.R_drew)); exact Kd.R_mono HO_22.out (fun _ hk => trivial)⟩, ⟨by repeat (first | (with_reducible first | exact HB.out | apply below_alloc | apply pw_below_drewN | apply below_drew1 | refine below_set ?_ GE124.out) | exact HB.out)⟩⟩
              · rw [if_neg c14] at H
                exact absurd H (by simp)
            · rw [if_neg c13] at H
              exact absurd H (by simp)
          · rw [if_neg c12] at H
            exact absurd H (by simp)
        · rw [if_neg c11] at H
          have c11b0 : decide (x24_1 < (t117.length : Int)) = false := decide_eq_false c11
          clear c11
          simp only [Option.some.injEq, Prod.mk.injEq] at H
          obtain ⟨rfl, rfl⟩ := H
          go_wp2
          go_ret2
          exact ⟨_, by first | rfl | (simp [errW_none, errW_some] <;> rfl) | (simp [*, errW_none, errW_some] <;> rfl), by (with_reducible repeat (first | apply Kd.R_alloc | apply Kd.R_drewN | apply Kd.R_drew)); exact HO_8.out, by repeat (first | (with_reducible first | exact HB.out | apply below_alloc | apply pw_below_drewN | apply below_drew1) | exact HB.out)⟩
  · replace c4 := Bool.eq_false_iff.mpr c4
    subst c4
    have H1 : (some (([] : List Int), false)) = some (r1, r2) := by rw [if_neg (show ¬ (false = true) by decide)] at H; exact H
    clear H
    have H := H1
    clear H1
    simp only [Option.some.injEq, Prod.mk.injEq] at H
    obtain ⟨rfl, rfl⟩ := H
    go_enter Try.func6, Try.ntmps6
    go_wp2_with (first | ((with_reducible refine gate_callee (f := 25) rfl ?_); refine goesL_ (some 13) rfl rfl Try.func25 (by kernel_rfl) rfl #[.int .i64 a0, .slice A1 l1.length c1] rfl (by (try simp only [List.map_toArray, List.map_cons, List.map_nil]); first | done | rfl | (simp only [List.length_drop, List.length_take]; rfl)) ?_; (with_reducible refine (spec_l10Masks.calls k a0 _ _ l1 false _ ?side1 ?side2 A3.out).mono ?_); (case side1 => repeat (first | exact HR1.out | (with_reducible refine Kd.C_alloc ?_ _) | (with_reducible refine Kd.C_drewN ?_ _) | (with_reducible refine Kd.C_drew ?_))); (case side2 => exact HC1.out); rintro e w' ⟨rfl, ⟨nd, rfl⟩⟩; refine ⟨_, rfl, ?_⟩))
    go_ret2
    exact ⟨_, by first | rfl | (simp [errW_none, errW_some] <;> rfl) | (simp [*, errW_none, errW_some] <;> rfl), by first | exact Kd.R_nil _ _ _ _ _ | exact Kd.N_nil _ _ _ _ _ | exact Kd.V_nil _ _ _ _ _ | exact Kd.Q_nil _ _ _ _ _ | exact Kd.S_nil _ _ _ _ _, by repeat (first | (with_reducible first | exact HB.out | apply below_alloc | apply pw_below_drewN | apply below_drew1) | exact HB.out)⟩

/-! ### laws_toIntS: function 7 -/
def laws_toIntS.l0 : Nat → List Int → List Int → Int → Option (List Int)
  | 0, _, _, _ => none
  | k + 1, x0, x3, x4 => if x4 < (x0.length : Int) then (if 0 ≤ x4 then (if x4 < (x3.length : Int) then (laws_toIntS.l0 k x0 (x3.set (x4 : Int).toNat (rd x0 x4)) (wrap64 (x4 + 1))) else (none)) else (none)) else (some x3)
def laws_toIntS.f (k : Nat) (l0 : List Int) : Option (List Int) := if 0 ≤ (l0.length : Int) then (if ((l0.length : Int) : Int).toNat ≤ 35184372088832 then (laws_toIntS.l0 k l0 (List.replicate ((l0.length : Int) : Int).toNat 0) 0) else (none)) else (none)
theorem laws_toIntS.mono_l : ∀ k, (∀ y0 y1 y2, LeO (laws_toIntS.l0 k y0 y1 y2) (laws_toIntS.l0 (k + 1) y0 y1 y2))
  | 0 => fun _ _ _ r h => by simp [laws_toIntS.l0] at h
  | k + 1 => by
    have ih0 := laws_toIntS.mono_l k
    · intro y0 y1 y2
      unfold laws_toIntS.l0
      repeat' first
      | (with_reducible exact ih0 _ _ _)
      | (with_reducible exact LeO.refl _)
      | (with_reducible exact LeO.none _)
      | (with_reducible refine LeO.ite ?_ ?_)
      | (with_reducible refine LeO.bind ?_ (fun _ => ?_))
      | exact ih0 _ _ _
      | exact LeO.none _
      | refine LeO.ite ?_ ?_
      | refine LeO.bind ?_ (fun _ => ?_)
theorem laws_toIntS.mono : ∀ a0 k, LeO (laws_toIntS.f k a0) (laws_toIntS.f (k + 1) a0) := by
  intro a0 k
  have ih0 := laws_toIntS.mono_l k
  unfold laws_toIntS.f
  repeat' first
      | (with_reducible exact ih0 _ _ _)
      | (with_reducible exact LeO.refl _)
      | (with_reducible exact LeO.none _)
      | (with_reducible refine LeO.ite ?_ ?_)
      | (with_reducible refine LeO.bind ?_ (fun _ => ?_))
      | exact ih0 _ _ _
      | exact LeO.none _
      | refine LeO.ite ?_ ?_
      | refine LeO.bind ?_ (fun _ => ?_)
set_option maxHeartbeats 8000000 in
set_option maxRecDepth 100000 in
theorem laws_toIntS.calls (k : Nat) (A0 : Option Addr) (c0 : Nat) (l0 : List Int) (r : List Int) (w : World) (hr0 : Kd.C (Kd.int .i64) w A0 l0.length l0) (hc0 : l0.length ≤ c0) (h : laws_toIntS.f k l0 = some r) :
    Calls Try.prog 7 #[.slice A0 l0.length c0] w fun e w' => ∃ v0_ : Value, e = .returned (v0_) ∧ Kd.R (Kd.int .i64) 3 w' w.heap.size (fun _ => True) v0_ r ∧ Below w.heap.size w w' := by
  have HR0 := Aside0.mk hr0
  have HC0 := Aside0.mk hc0
  clear hr0 hc0
  have HB := Aside0.mk (Below.refl w.heap.size w)
  have H : (if 0 ≤ (l0.length : Int) then (if ((l0.length : Int) : Int).toNat ≤ 35184372088832 then (laws_toIntS.l0 k l0 (List.replicate ((l0.length : Int) : Int).toNat 0) 0) else (none)) else (none)) = some r := h
  clear h
  by_cases c2 : 0 ≤ (l0.length : Int)
  · rw [if_pos c2] at H
    have c2b0 := eq_true c2
    have c2b1 : decide (0 ≤ (l0.length : Int)) = true := decide_eq_true c2
    clear c2
    by_cases c3 : ((l0.length : Int) : Int).toNat ≤ 35184372088832
    · rw [if_pos c3] at H
      have c3b0 := eq_true c3
      have c3b1 : decide (((l0.length : Int) : Int).toNat ≤ 35184372088832) = true := decide_eq_true c3
      clear c3
      obtain ⟨y128, hy128⟩ : ∃ y_ : List Int, y_ = (List.replicate ((l0.length : Int) : Int).toNat 0) := ⟨_, rfl⟩
      replace H : (laws_toIntS.l0 k l0 y128 0) = some r := by first | (rw [hy128]; with_reducible exact H) | (have H2_ := (Option.bind_some _ _).symm.trans H; rw [hy128]; with_reducible exact H2_) | (have H2_ := (Option.bind_some _ _).symm.trans H; with_reducible exact H2_) | with_reducible exact H | (rw [hy128]; exact H) | exact H
      have Ny128 := Aside0.mk hy128
      clear hy128
      have H' := Aside0.mk H
      clear H
      go_enter Try.func7, Try.ntmps7
      go_wp2_with (first | ((with_reducible refine gate_dst (N := 7) rfl ?_); refine Kd.R_make (Kd.int .i64) _ 3 rfl (N := 7) rfl 22 _ _ rfl (l0.length : Int) rfl rfl Try.underlying22 (.int .i64 0) 8 info3 rfl (by decide) (by omega) 0 (ok := fun _ => True) (okp := fun _ => True) rfl (fun _ hk => hk) trivial (of_decide_eq_true (by first | (with_reducible assumption) | assumption)) (Nat.le_trans (Nat.mul_le_mul_right _ (of_decide_eq_true (by first | (with_reducible assumption) | assumption) : (l0.length : Int).toNat ≤ 35184372088832)) (by omega)) (Below.refl _ _) (Nat.le_refl _) ?_; intro v129 w4 ho5 hb hg_ hnew_; clear hg_ hnew_; (first | rw [← Ny128.out] at ho5 | (simp only [Int.reduceToNat] at ho5; rw [← Ny128.out] at ho5)); have n0_ := Aside0.mk (Kd.R_lower ho5 (below_size (by repeat (first | (with_reducible first | exact HB.out | apply below_alloc | apply pw_below_drewN | apply below_drew1) | exact HB.out)))); have n1_ := Aside0.mk (below_step (by repeat (first | (with_reducible first | exact HB.out | apply below_alloc | apply pw_below_drewN | apply below_drew1) | exact HB.out)) hb); clear HB; have HO130 := n0_; have HB := n1_; clear n0_ n1_; clear hb ho5))
      go_loopg [4] k (fun kq v4 w' => ∃ (x3_1 : List Int) (x4_1 : Int), v4 = .int .i64 x4_1 ∧ Aside0 (laws_toIntS.l0 kq l0 x3_1 x4_1 = some r) ∧ Aside0 (kq ≤ k) ∧ Aside0 (Kd.R (Kd.int .i64) 3 w' w.heap.size (fun _ => True) v129 x3_1) ∧ Aside0 (Below w.heap.size w w'))
      case atStart => exact ⟨(y128), (0), (by first | rfl | (simp; done) | (simp [*]; done)), H', ⟨Nat.le_refl _⟩, ⟨by (with_reducible repeat (first | apply Kd.R_alloc | apply Kd.R_drewN | apply Kd.R_drew)); exact HO130.out⟩, ⟨by repeat (first | (with_reducible first | exact HB.out | apply below_alloc | apply pw_below_drewN | apply below_drew1) | exact HB.out)⟩⟩
      case round =>
        clear H'
        try clear c2
        try clear c2b0
        try clear c2b1
        try clear p2
        try clear c3
        try clear c3b0
        try clear c3b1
        obtain ⟨x3_1, x4_1, rfl, HA, HK1, HO_3, HB⟩ := hrel
        cases gk with
        | zero => exact absurd HA.out (by simp [laws_toIntS.l0])
        | succ k1 =>
          have H := HA.out
          clear HA
          simp only [laws_toIntS.l0] at H
          by_cases c6 : x4_1 < (l0.length : Int)
          · rw [if_pos c6] at H
            have c6b0 : decide (x4_1 < (l0.length : Int)) = true := decide_eq_true c6
            clear c6
            by_cases c7 : 0 ≤ x4_1
            · rw [if_pos c7] at H
              have c7b0 : decide (0 ≤ x4_1) = true := decide_eq_true c7
              clear c7
              by_cases c8 : x4_1 < (x3_1.length : Int)
              · rw [if_pos c8] at H
                have c8b0 : decide (x4_1 < (x3_1.length : Int)) = true := decide_eq_true c8
                clear c8
                obtain ⟨y132, hy132⟩ : ∃ y_ : List Int, y_ = (x3_1.set (x4_1 : Int).toNat (rd l0 x4_1)) := ⟨_, rfl⟩
                replace H : (laws_toIntS.l0 k1 l0 y132 (wrap64 (x4_1 + 1))) = some r := by first | (rw [hy132]; with_reducible exact H) | (have H2_ := (Option.bind_some _ _).symm.trans H; rw [hy132]; with_reducible exact H2_) | (have H2_ := (Option.bind_some _ _).symm.trans H; with_reducible exact H2_) | with_reducible exact H | (rw [hy132]; exact H) | exact H
                have Ny132 := Aside0.mk hy132
                clear hy132
                have H' := Aside0.mk H
                clear H
                have p131 : 0 ≤ (x4_1 : Int) := of_decide_eq_true (by first | (with_reducible assumption) | assumption)
                have q131 : x4_1 < (l0.length : Int) := of_decide_eq_true (by first | (with_reducible assumption) | assumption)
                obtain ⟨ad131, e131, hx131_0⟩ := Kd.at_int HR0.out x4_1 p131 q131
                cases e131
                replace hx131_0 := (HB.out.cell (World.block_lt_of_cell? w _ hx131_0)).trans hx131_0
                replace p131 := eq_true p131
                replace q131 := eq_true q131
                have p9 : 0 ≤ (x4_1 : Int) := of_decide_eq_true (by first | (with_reducible assumption) | assumption)
                have q9 : (x4_1 : Int) < ((x3_1.length : Int) : Int) := of_decide_eq_true (by first | (with_reducible assumption) | assumption)
                obtain ⟨go9, co9, eo9, gb9, gl9, cl9, HG9⟩ := Kd.R_form HO_3.out (by omega)
                (first | cases eo9 | (injection eo9 with ea_ en_ ec_; (first | subst ea_ | (injection ea_ with ea_; subst ea_)); subst ec_; clear en_))
                have GB9 := Aside0.mk gb9
                have GG9 := Aside0.mk HG9
                clear gb9 gl9 HG9
                obtain ⟨hx9_0, hf9_0⟩ := Kd.R_celln 0 HO_3.out (x4_1 : Int) p9 q9
                replace p9 := eq_true p9
                replace q9 := eq_true q9
                have HP10 := Kd.R_putg HO_3.out (x4_1 : Int) (rd l0 x4_1)
                go_wp2_with (first | ((with_reducible refine gate_store (t := 3) (p := 20) rfl ?_); refine store_event (t := 3) (p := 20) (v := ?vo_w11) (w1 := (wr.setCell ⟨go9, (x4_1 : Int).toNat, none⟩ (.int .i64 (rd l0 x4_1)))) ?hg ?ho ?hn ?hr ?_; (case ho => rfl); (case hg => rfl); (case hn => rfl); (case hr => first | (go_simp; done) | (go_simp; rfl)); intro w11 hw; have hg : wr.grownBy w11 (some go9) := (by rw [hw]; exact HP10.2); have hp_ : Kd.R (Kd.int .i64) 3 w11 w.heap.size (fun _ => True) (.slice (some ⟨go9, 0, none⟩) x3_1.length co9) y132 := (by rw [hw, Ny132.out]; exact HP10.1); clear HP10; have n0_ := Aside0.mk (hp_); have n1_ := Aside0.mk ((by rw [hw]; exact below_set (HB.out) GB9.out : Below w.heap.size w w11)); clear HO_3; clear HB; have HO_3 := n0_; have HB := n1_; clear n0_ n1_; clear hg hw hp_))
                go_roundg k1
                case measure => have := HK1.out; omega
                case rel => exact ⟨(y132), (wrap64 (x4_1 + 1)), (by first | rfl | (simp; done) | (simp [*]; done)), H', ⟨by have := HK1.out; omega⟩, ⟨by (with_reducible repeat (first | apply Kd.R_alloc | apply Kd.R_drewN | apply Kd.R_drew)); exact HO_3.out⟩, ⟨by repeat (first | (with_reducible first | exact HB.out | apply below_alloc | apply pw_below_drewN | apply below_drew1) | exact HB.out)⟩⟩
              · rw [if_neg c8] at H
                exact absurd H (by simp)
            · rw [if_neg c7] at H
              exact absurd H (by simp)
          · rw [if_neg c6] at H
            have c6b0 : decide (x4_1 < (l0.length : Int)) = false := decide_eq_false c6
            clear c6
            obtain rfl := Option.some.inj H
            go_wp2
            go_ret
            exact ⟨_, by first | rfl | (simp [errW_none, errW_some] <;> rfl) | (simp [*, errW_none, errW_some] <;> rfl), by (with_reducible repeat (first | apply Kd.R_alloc | apply Kd.R_drewN | apply Kd.R_drew)); exact HO_3.out, by repeat (first | (with_reducible first | exact HB.out | apply below_alloc | apply pw_below_drewN | apply below_drew1) | exact HB.out)⟩
    · rw [if_neg c3] at H
      exact absurd H (by simp)
  · rw [if_neg c2] at H
    exact absurd H (by simp)

/-! ### impl_within: function 50 -/
def impl_within.f (a0 : Int) (a1 : Int) (a2 : Int) : Option (Bool) := if a1 ≤ a0 then (some (decide (a0 ≤ a2))) else (some false)
set_option maxHeartbeats 8000000 in
set_option maxRecDepth 100000 in
theorem impl_within.calls (a0 : Int) (a1 : Int) (a2 : Int) (r : Bool) (w : World) (h : impl_within.f a0 a1 a2 = some r) :
    Calls Try.prog 50 #[.int .i64 a0, .int .i64 a1, .int .i64 a2] w fun e w' => e = .returned (.bool r) ∧ Drawn0 w w' := by
  have H : (if a1 ≤ a0 then (some (decide (a0 ≤ a2))) else (some false)) = some r := h
  clear h
  by_cases c4 : a1 ≤ a0
  · rw [if_pos c4] at H
    have c4b0 : decide (a1 ≤ a0) = true := decide_eq_true c4
    clear c4
    obtain rfl := Option.some.inj H
    go_enter Try.func50, Try.ntmps50
    go_wp2
    go_ret
    exact ⟨by first | rfl | (simp; done) | (simp [*]; done), by repeat (first | exact Drawn0.refl _ | apply Drawn0.step)⟩
  · rw [if_neg c4] at H
    have c4b0 : decide (a1 ≤ a0) = false := decide_eq_false c4
    clear c4
    obtain rfl := Option.some.inj H
    go_enter Try.func50, Try.ntmps50
    go_wp2
    go_ret
    exact ⟨by first | rfl | (simp; done) | (simp [*]; done), by repeat (first | exact Drawn0.refl _ | apply Drawn0.step)⟩

/-! ### impl_isMask: function 34 -/
def impl_isMask.f (a0 : Int) (a1 : Int) : Option (Bool) := if 0 ≤ a0 then ((impl_within.f a1 0 (wrap64 ((shl .i64 1 a0) - 1))).bind fun t133 => (some t133)) else (none)
set_option maxHeartbeats 8000000 in
set_option maxRecDepth 100000 in
theorem impl_isMask.calls (a0 : Int) (a1 : Int) (r : Bool) (w : World) (h : impl_isMask.f a0 a1 = some r) :
    Calls Try.prog 34 #[.int .i64 a0, .int .i64 a1] w fun e w' => e = .returned (.bool r) ∧ Drawn0 w w' := by
  have H : (if 0 ≤ a0 then ((impl_within.f a1 0 (wrap64 ((shl .i64 1 a0) - 1))).bind fun t133 => (some t133)) else (none)) = some r := h
  clear h
  by_cases c3 : 0 ≤ a0
  · rw [if_pos c3] at H
    have c3b0 := eq_true c3
    have c3b1 : decide (0 ≤ a0) = true := decide_eq_true c3
    clear c3
    obtain ⟨ji4, hji4⟩ : ∃ j_ : Int, (shl .i64 1 a0) = j_ := ⟨_, rfl⟩
    replace H : ((impl_within.f a1 0 (wrap64 ((ji4) - 1))).bind fun t133 => (some t133)) = some r := by first | (rw [hji4] at H; exact H) | (simp only [hji4] at H ⊢; exact H)
    have hji4_ : (IntKind.i64.wrap (1 * 2 ^ min a0.toNat 64)) = ji4 := hji4
    have hji4z : a0 ≤ 64 → (IntKind.i64.wrap (1 * 2 ^ a0.toNat)) = ji4 := shl_small hji4
    have hji4u : (IntKind.i64.wrap (2 ^ min a0.toNat 64)) = ji4 := by have h_ := hji4_; rw [Int.one_mul] at h_; exact h_
    have hji4v : a0 ≤ 64 → (IntKind.i64.wrap (2 ^ a0.toNat)) = ji4 := fun hle_ => by have h_ := hji4z hle_; rw [Int.one_mul] at h_; exact h_
    have hji4y : (wrap64 (1 * 2 ^ min a0.toNat 64)) = ji4 := (i64_w _).symm.trans hji4_
    have hji4x : a0 ≤ 64 → (wrap64 (1 * 2 ^ a0.toNat)) = ji4 := fun h_ => (i64_w _).symm.trans (hji4z h_)
    replace H := Option.bind_eq_some_iff.mp H
    obtain ⟨t133, A50, H⟩ := H
    replace H : (some t133) = some r := H
    have A5 := Aside0.mk A50
    clear A50
    obtain rfl := Option.some.inj H
    go_enter Try.func34, Try.ntmps34
    go_wp2_with (first | ((with_reducible refine gate_callee (f := 50) rfl ?_); refine goesL_ (some 9) rfl rfl Try.func50 (by kernel_rfl) rfl #[.int .i64 a1, .int .i64 0, .int .i64 (wrap64 ((ji4) - 1))] rfl (by (try simp only [List.map_toArray, List.map_cons, List.map_nil]); first | done | (simp only [hji4]; rfl) | rfl | (simp only [List.length_drop, List.length_take]; rfl)) ?_; (with_reducible refine (impl_within.calls a1 0 (wrap64 ((ji4) - 1)) t133 _ A5.out).mono ?_); rintro e w' ⟨rfl, ⟨nd, rfl⟩⟩; refine ⟨_, rfl, ?_⟩))
    go_ret
    exact ⟨by first | rfl | (simp; done) | (simp only [← hji4] <;> (first | rfl | simp)) | (simp [*]; done), by repeat (first | exact Drawn0.refl _ | apply Drawn0.step)⟩
  · rw [if_neg c3] at H
    exact absurd H (by simp)

/-! ### impl_isMany: function 42 -/
def impl_isMany.f (a0 : Int) : Option (Bool) := (impl_within.f a0 1 10).bind fun t134 => (some t134)
set_option maxHeartbeats 8000000 in
set_option maxRecDepth 100000 in
theorem impl_isMany.calls (a0 : Int) (r : Bool) (w : World) (h : impl_isMany.f a0 = some r) :
    Calls Try.prog 42 #[.int .i64 a0] w fun e w' => e = .returned (.bool r) ∧ Drawn0 w w' := by
  have H : ((impl_within.f a0 1 10).bind fun t134 => (some t134)) = some r := h
  clear h
  replace H := Option.bind_eq_some_iff.mp H
  obtain ⟨t134, A20, H⟩ := H
  replace H : (some t134) = some r := H
  have A2 := Aside0.mk A20
  clear A20
  obtain rfl := Option.some.inj H
  go_enter Try.func42, Try.ntmps42
  go_wp2_with (first | ((with_reducible refine gate_callee (f := 50) rfl ?_); refine goesL_ (some 4) rfl rfl Try.func50 (by kernel_rfl) rfl #[.int .i64 a0, .int .i64 1, .int .i64 10] rfl (by (try simp only [List.map_toArray, List.map_cons, List.map_nil]); first | done | rfl | (simp only [List.length_drop, List.length_take]; rfl)) ?_; (with_reducible refine (impl_within.calls a0 1 10 t134 _ A2.out).mono ?_); rintro e w' ⟨rfl, ⟨nd, rfl⟩⟩; refine ⟨_, rfl, ?_⟩))
  go_ret
  exact ⟨by first | rfl | (simp; done) | (simp [*]; done), by repeat (first | exact Drawn0.refl _ | apply Drawn0.step)⟩

-- NOT PRINTED: function 71 (slices_IndexFunc_int_int)

-- NOT PRINTED: function 57 (slices_ContainsFunc_int_int)

-- NOT PRINTED: function 43 (impl_areAll_int)

/-! ### enters_own: our own -/
/-- a function with a body is entered -/
theorem enters_own {P : Program} {f : FuncId} {fn : Func} {c : Code} (hf : P.funcs[f]? = some fn) (hname : (fn.name == "runtime.NumGoroutine") = false) (hb : fn.body = some c) : ∀ args w, (callFunc f args).run P w = .ok (.enter f args) w := by
  intro args w
  have h1 : fn.name ≠ "runtime.NumGoroutine" := by simpa using hname
  simp [callFunc, hf, h1, hb, mark]

/-! ### idxO: our own -/
/-- the first place at which p says yes, from i on; -1 -/
def idxO {α : Type} (p : α → Option Bool) : List α → Nat → Option Int
  | [], _ => some (-1)
  | x :: l, i => (p x).bind fun b => if b = true then some (i : Int) else idxO p l (i + 1)
/-- whether p says yes of all -/
def allO {α : Type} (p : α → Option Bool) : List α → Option Bool
  | [] => some true
  | x :: l => (p x).bind fun b => if b = true then allO p l else some false
/-- whether p says yes of any -/
def anyO {α : Type} (p : α → Option Bool) : List α → Option Bool
  | [] => some false
  | x :: l => (p x).bind fun b => if b = true then some true else anyO p l
theorem idxO_all {α : Type} (p : α → Option Bool) : ∀ (l : List α) (i : Nat) (r : Bool), allO p l = some r → ∃ q, idxO (fun x => (p x).map (!·)) l i = some q ∧ r = !decide (0 ≤ q)
  | [], i, r, h => ⟨-1, rfl, by simp [allO] at h; simp [h]⟩
  | x :: l, i, r, h => by
    simp only [allO] at h
    obtain ⟨b, hb, h⟩ := Option.bind_eq_some_iff.1 h
    cases b with
    | true =>
      obtain ⟨q, h1, h2⟩ := idxO_all p l (i + 1) r (by simpa using h)
      exact ⟨q, by simpa [idxO, hb] using h1, h2⟩
    | false => exact ⟨i, by simp [idxO, hb], by simp at h; simp [h]⟩
theorem idxO_any {α : Type} (p : α → Option Bool) : ∀ (l : List α) (i : Nat) (r : Bool), anyO p l = some r → ∃ q, idxO p l i = some q ∧ r = decide (0 ≤ q)
  | [], i, r, h => ⟨-1, rfl, by simp [anyO] at h; simp [h]⟩
  | x :: l, i, r, h => by
    simp only [anyO] at h
    obtain ⟨b, hb, h⟩ := Option.bind_eq_some_iff.1 h
    cases b with
    | true => exact ⟨i, by simp [idxO, hb], by simp at h; simp [h]⟩
    | false =>
      obtain ⟨q, h1, h2⟩ := idxO_any p l (i + 1) r (by simpa using h)
      exact ⟨q, by simpa [idxO, hb] using h1, h2⟩
/-- what is asked of a function value that is handed on: called with an element it tells what p tells; it may lay blocks -/
def PredB (P : Program) (g : Nat) (lb : Array Value) {α : Type} (enc : α → Value) (p : α → Option Bool) (w : World) : Prop :=
  ∀ (W : World) (x : α) (b : Bool), Below w.heap.size w W → p x = some b → Calls P g (#[enc x] ++ lb) W fun e W' => e = .returned (.bool b) ∧ Below W.heap.size W W'
theorem PredB.later {P : Program} {g : Nat} {lb : Array Value} {α : Type} {enc : α → Value} {p : α → Option Bool} {w W : World} (h : PredB P g lb enc p w) (hb : Below w.heap.size w W) : PredB P g lb enc p W :=
  fun W' x b hb' hx => h W' x b (hb.trans (hb'.mono hb.size)) hx

end Go.Proofs.Ytmglhpajnhdafaa.PQ

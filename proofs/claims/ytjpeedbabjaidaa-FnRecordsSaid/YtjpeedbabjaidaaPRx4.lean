-- Written by a program of this session (wip/xprint.py over the kit's printer), out of the translation; the texts of functions that the printer does not take are this session's own.
import Derived.Test.YtjpeedbabjaidaaPRx0
import Derived.Test.YtjpeedbabjaidaaPRx2
import Derived.Test.YtjpeedbabjaidaaPRx3
namespace Go.Proofs.Ytjpeedbabjaidaa.PR
open Go.RowKit Go.Proofs.YtjpeedbabjaidaaW.PrintWords Go.Proofs.YtjpeedbabjaidaaW.PrintLast Go.Proofs.YtjpeedbabjaidaaW.PrintMore
attribute [local go_sem] max2_int min2_int max_two min_two max_three min_three max_four min_four   -- for this text's walks alone
set_option linter.unusedVariables false
set_option linter.unusedSimpArgs false

/-! ### spec_l3Read: function 50 -/
def spec_l3Read.j0 : Nat → ByteArray → Int → Int → Bool → Option (Int × Int × Int × ByteArray × Int)
 | 0, _, _, _, _ => none
 | k + 1, x0, x1, x6, x28 => if x28 = true then (some (0, 0, 0, (⟨#[]⟩ : ByteArray), (-1))) else (if 0 ≤ (wrap64 (x1 + 1)) then (if (wrap64 (x1 + 1)) ≤ (wrap64 ((wrap64 (x1 + 1)) + x6)) then (if (wrap64 ((wrap64 (x1 + 1)) + x6)) ≤ (x0.size : Int) then (if 0 < ((x0.extract ((wrap64 (x1 + 1)) : Int).toNat ((wrap64 ((wrap64 (x1 + 1)) + x6)) : Int).toNat).size : Int) then (if 1 < ((x0.extract ((wrap64 (x1 + 1)) : Int).toNat ((wrap64 ((wrap64 (x1 + 1)) + x6)) : Int).toNat).size : Int) then (if 2 < ((x0.extract ((wrap64 (x1 + 1)) : Int).toNat ((wrap64 ((wrap64 (x1 + 1)) + x6)) : Int).toNat).size : Int) then (if 3 ≤ (wrap64 (x6 - 2)) then (if (wrap64 (x6 - 2)) ≤ ((x0.extract ((wrap64 (x1 + 1)) : Int).toNat ((wrap64 ((wrap64 (x1 + 1)) + x6)) : Int).toNat).size : Int) then ((spec_GoodRecord.f (wrap64 (bt (x0.extract ((wrap64 (x1 + 1)) : Int).toNat ((wrap64 ((wrap64 (x1 + 1)) + x6)) : Int).toNat) 0)) (wrap64 (bt (x0.extract ((wrap64 (x1 + 1)) : Int).toNat ((wrap64 ((wrap64 (x1 + 1)) + x6)) : Int).toNat) 1)) (wrap64 (bt (x0.extract ((wrap64 (x1 + 1)) : Int).toNat ((wrap64 ((wrap64 (x1 + 1)) + x6)) : Int).toNat) 2)) ((x0.extract ((wrap64 (x1 + 1)) : Int).toNat ((wrap64 ((wrap64 (x1 + 1)) + x6)) : Int).toNat).extract 3 ((wrap64 (x6 - 2)) : Int).toNat)).bind fun t145 => (if t145 = true then ((spec_l3Text.f k (wrap64 (bt (x0.extract ((wrap64 (x1 + 1)) : Int).toNat ((wrap64 ((wrap64 (x1 + 1)) + x6)) : Int).toNat) 0)) (wrap64 (bt (x0.extract ((wrap64 (x1 + 1)) : Int).toNat ((wrap64 ((wrap64 (x1 + 1)) + x6)) : Int).toNat) 1)) (wrap64 (bt (x0.extract ((wrap64 (x1 + 1)) : Int).toNat ((wrap64 ((wrap64 (x1 + 1)) + x6)) : Int).toNat) 2)) ((x0.extract ((wrap64 (x1 + 1)) : Int).toNat ((wrap64 ((wrap64 (x1 + 1)) + x6)) : Int).toNat).extract 3 ((wrap64 (x6 - 2)) : Int).toNat)).bind fun t146 => (if 0 ≤ x1 then (if x1 ≤ (wrap64 ((wrap64 (x1 + 1)) + x6)) then (if t146.toList = (x0.extract (x1 : Int).toNat ((wrap64 ((wrap64 (x1 + 1)) + x6)) : Int).toNat).toList then (some (wrap64 (bt (x0.extract ((wrap64 (x1 + 1)) : Int).toNat ((wrap64 ((wrap64 (x1 + 1)) + x6)) : Int).toNat) 0), wrap64 (bt (x0.extract ((wrap64 (x1 + 1)) : Int).toNat ((wrap64 ((wrap64 (x1 + 1)) + x6)) : Int).toNat) 1), wrap64 (bt (x0.extract ((wrap64 (x1 + 1)) : Int).toNat ((wrap64 ((wrap64 (x1 + 1)) + x6)) : Int).toNat) 2), (x0.extract ((wrap64 (x1 + 1)) : Int).toNat ((wrap64 ((wrap64 (x1 + 1)) + x6)) : Int).toNat).extract 3 ((wrap64 (x6 - 2)) : Int).toNat, wrap64 ((wrap64 (x1 + 1)) + x6))) else (some (0, 0, 0, (⟨#[]⟩ : ByteArray), (-1)))) else (none)) else (none))) else (some (0, 0, 0, (⟨#[]⟩ : ByteArray), (-1))))) else (none)) else (none)) else (none)) else (none)) else (none)) else (none)) else (none)) else (none))
def spec_l3Read.f (k : Nat) (a0 : ByteArray) (a1 : Int) : Option (Int × Int × Int × ByteArray × Int) := if a1 ≥ (a0.size : Int) then (some (0, 0, 0, (⟨#[]⟩ : ByteArray), (-1))) else (if 0 ≤ a1 then (if a1 < (a0.size : Int) then (if (wrap64 (bt a0 a1)) < 5 then (spec_l3Read.j0 k a0 a1 (wrap64 (bt a0 a1)) true) else (spec_l3Read.j0 k a0 a1 (wrap64 (bt a0 a1)) (decide ((wrap64 (bt a0 a1)) > (wrap64 ((wrap64 ((a0.size : Int) - a1)) - 1)))))) else (none)) else (none))
theorem spec_l3Read.mono_l : ∀ k, (∀ y0 y1 y2 y3, LeO (spec_l3Read.j0 k y0 y1 y2 y3) (spec_l3Read.j0 (k + 1) y0 y1 y2 y3))
 | 0 => fun _ _ _ _ r h => by simp [spec_l3Read.j0] at h
 | k + 1 => by
  have ih0 := spec_l3Read.mono_l k
  ·intro y0 y1 y2 y3
   unfold spec_l3Read.j0
   repeat' first
   | (with_reducible exact ih0 _ _ _ _)
   | (with_reducible exact spec_l3Text.mono _ _ _ _ _)
   | (with_reducible exact LeO.refl _)
   | (with_reducible exact LeO.none _)
   | (with_reducible refine LeO.ite ?_ ?_)
   | (with_reducible refine LeO.bind ?_ (fun _ => ?_))
   | exact ih0 _ _ _ _
   | exact spec_l3Text.mono _ _ _ _ _
   | exact LeO.none _
   | refine LeO.ite ?_ ?_
   | refine LeO.bind ?_ (fun _ => ?_)
theorem spec_l3Read.mono : ∀ a0 a1 k, LeO (spec_l3Read.f k a0 a1) (spec_l3Read.f (k + 1) a0 a1) := by
 intro a0 a1 k
 have ih0 := spec_l3Read.mono_l k
 unfold spec_l3Read.f
 repeat' first
   | (with_reducible exact ih0 _ _ _ _)
   | (with_reducible exact spec_l3Text.mono _ _ _ _ _)
   | (with_reducible exact LeO.refl _)
   | (with_reducible exact LeO.none _)
   | (with_reducible refine LeO.ite ?_ ?_)
   | (with_reducible refine LeO.bind ?_ (fun _ => ?_))
   | exact ih0 _ _ _ _
   | exact spec_l3Text.mono _ _ _ _ _
   | exact LeO.none _
   | refine LeO.ite ?_ ?_
   | refine LeO.bind ?_ (fun _ => ?_)
def spec_l3Read.T7 : Bool × List (List Nat × List Nat) := (true, [([], []), ([0], [0]), ([1], [1]), ([], []), ([3], [3]), ([4], [4]), ([], []), ([6], [6]), ([7], [7]), ([], []), ([], []), ([10], [10]), ([9, 11], [9, 11]), ([2, 5, 8, 12], [2, 5, 8, 12]), ([], []), ([14, 13, 0, 1, 2, 3, 4, 5, 6, 7, 8, 9, 10, 11, 12, 13, 14], [13, 14])])
def spec_l3Read.B7 : List Nat := [0, 1, 3, 0, 8, 24, 0, 64, 192, 0, 0, 1024, 3584, 8191, 0, 32767]
theorem spec_l3Read.tab7 : rtab .any (opsOf Try.f50 7) = spec_l3Read.T7 := by kernel_rfl
theorem spec_l3Read.bits7 : waitsOk spec_l3Read.T7.2 spec_l3Read.B7 = true := by kernel_rfl
def spec_l3Read.T8 : Bool × List (List Nat × List Nat) := (true, [([], []), ([0], [0]), ([1], [1]), ([2, 1], [2]), ([3], [3]), ([4, 3, 3], [3, 4]), ([3], [3]), ([3], [3]), ([3], [3]), ([8, 3], [3, 8]), ([3], [3]), ([9, 10, 3], [3, 9, 10]), ([6, 7, 11, 3], [3, 6, 7, 11]), ([5, 12, 3], [3, 5, 12]), ([3, 13], [3, 13])])
def spec_l3Read.B8 : List Nat := [0, 1, 3, 7, 15, 31, 15, 15, 15, 271, 15, 1807, 4047, 8191, 16383]
theorem spec_l3Read.tab8 : rtab .any (opsOf Try.f50 8) = spec_l3Read.T8 := by kernel_rfl
theorem spec_l3Read.bits8 : waitsOk spec_l3Read.T8.2 spec_l3Read.B8 = true := by kernel_rfl
set_option maxHeartbeats 8000000 in
set_option maxRecDepth 100000 in
theorem spec_l3Read.calls (k : Nat) (a0 : ByteArray) (a1 : Int) (r1 : Int) (r2 : Int) (r3 : Int) (r4 : ByteArray) (r5 : Int) (w : World) (h : spec_l3Read.f k a0 a1 = some (r1, r2, r3, r4, r5)) :
  Calls Try.prog 50 #[.string a0, .int .i64 a1] w fun e w' => e = .returned (.tuple #[.agg #[.int .i64 r1, .int .i64 r2, .int .i64 r3, .string r4], .int .i64 r5]) ∧ Below w.heap.size w w' := by
 have hu27 := Try.underlying27
 have HB := Aside0.mk (Below.refl w.heap.size w)
 have H : (if a1 ≥ (a0.size : Int) then (some (0, 0, 0, (⟨#[]⟩ : ByteArray), (-1))) else (if 0 ≤ a1 then (if a1 < (a0.size : Int) then (if (wrap64 (bt a0 a1)) < 5 then (spec_l3Read.j0 k a0 a1 (wrap64 (bt a0 a1)) true) else (spec_l3Read.j0 k a0 a1 (wrap64 (bt a0 a1)) (decide ((wrap64 (bt a0 a1)) > (wrap64 ((wrap64 ((a0.size : Int) - a1)) - 1)))))) else (none)) else (none))) = some (r1, r2, r3, r4, r5) := h
 clear h
 by_cases c3 : a1 ≥ (a0.size : Int)
 ·rw [if_pos c3] at H
  have c3b0 : decide ((a0.size : Int) ≤ a1) = true := decide_eq_true c3
  clear c3
  simp only [Option.some.injEq, Prod.mk.injEq] at H
  obtain ⟨rfl, rfl, rfl, rfl, rfl⟩ := H
  go_enter Try.func50, Try.ntmps50
  go_wp2_with (first | ((with_reducible refine gate_dst (N := 4) rfl ?_); (try (refine gate_guard (by rfl) ?_; dsimp only)); refine box_event ?hg (N := 4) ?hd (cs := #[.int .i64 0, .int .i64 0, .int .i64 0, .string (⟨#[]⟩ : ByteArray)]) (t := 27) ?hr ?_; (case hd => rfl); (case hg => rfl); (case hr => first | (go_simp; done) | (go_simp; rfl)); intro gb143 hg w4 hbox hb; have n0_ := Aside0.mk (below_step Bl hb); have n1_ := Aside0.mk (hbox); have n2_ := Aside0.mk ((by rw [hg]; exact (below_size Bl) : w.heap.size ≤ gb143)); have n3_ := Aside0.mk ((by rw [hg]; exact (below_size Bl) : w.heap.size ≤ gb143)); clear HB; have HB := n0_; have BK143 := n1_; have GW143 := n2_; have GE143 := n3_; clear n0_ n1_ n2_ n3_; clear hb hbox hg; have hcz5_0 : w4.cell? ⟨gb143, 0, none⟩ = some (.int .i64 0) := (blk_cell BK143.out 0).trans rfl; have hcz5_1 : w4.cell? ⟨gb143, 1, none⟩ = some (.int .i64 0) := (blk_cell BK143.out 1).trans rfl; have hcz5_2 : w4.cell? ⟨gb143, 2, none⟩ = some (.int .i64 0) := (blk_cell BK143.out 2).trans rfl; have hcz5_3 : w4.cell? ⟨gb143, 3, none⟩ = some (.string (⟨#[]⟩ : ByteArray)) := (blk_cell BK143.out 3).trans rfl; have hfz5_0 := blk_frozen BK143.out 0; have hfz5_1 := blk_frozen BK143.out 1; have hfz5_2 := blk_frozen BK143.out 2; have hfz5_3 := blk_frozen BK143.out 3))
  refine bodyPost_ret (results_ct rfl _ _ gb143 27 #[.int .i64 0, .int .i64 0, .int .i64 0, .string (⟨#[]⟩ : ByteArray)] (0, 0) _ rfl (by (with_reducible repeat (first | refine blk_drewN ?_ _ | refine blk_drew ?_ | refine blk_alloc ?_ _)); refine blk_put (cs := #[.int .i64 0, .int .i64 0, .int .i64 0, .string (⟨#[]⟩ : ByteArray)]) ?_ 3 _ rfl; (with_reducible repeat (first | refine blk_drewN ?_ _ | refine blk_drew ?_ | refine blk_alloc ?_ _)); refine blk_put (cs := #[.int .i64 0, .int .i64 0, .int .i64 0, .string (⟨#[]⟩ : ByteArray)]) ?_ 2 _ rfl; (with_reducible repeat (first | refine blk_drewN ?_ _ | refine blk_drew ?_ | refine blk_alloc ?_ _)); refine blk_put (cs := #[.int .i64 0, .int .i64 0, .int .i64 0, .string (⟨#[]⟩ : ByteArray)]) ?_ 1 _ rfl; (with_reducible repeat (first | refine blk_drewN ?_ _ | refine blk_drew ?_ | refine blk_alloc ?_ _)); refine blk_put (cs := #[.int .i64 0, .int .i64 0, .int .i64 0, .string (⟨#[]⟩ : ByteArray)]) ?_ 0 _ rfl; (with_reducible repeat (first | refine blk_drewN ?_ _ | refine blk_drew ?_ | refine blk_alloc ?_ _)); exact BK143.out) Try.underlying27 rfl (by kernel_rfl)) rfl ?_
  exact ⟨by first | rfl | (simp [errW_none, errW_some] <;> rfl) | (simp [*, errW_none, errW_some] <;> rfl), by repeat (first | (with_reducible first | exact HB.out | apply below_alloc | apply pw_below_drewN | apply below_drew1 | refine below_set ?_ GE143.out) | exact HB.out)⟩
 ·rw [if_neg c3] at H
  have c3b0 : decide ((a0.size : Int) ≤ a1) = false := decide_eq_false c3
  clear c3
  by_cases c6 : 0 ≤ a1
  ·rw [if_pos c6] at H
   have c6b0 : decide (0 ≤ a1) = true := decide_eq_true c6
   clear c6
   by_cases c7 : a1 < (a0.size : Int)
   ·rw [if_pos c7] at H
    have c7b0 : decide (a1 < (a0.size : Int)) = true := decide_eq_true c7
    clear c7
    have HC9 := Aside0.mk H
    clear H
    go_enter Try.func50, Try.ntmps50
    go_upto_region 4 with (first | ((with_reducible refine gate_dst (N := 4) rfl ?_); (try (refine gate_guard (by rfl) ?_; dsimp only)); refine box_event ?hg (N := 4) ?hd (cs := #[.int .i64 0, .int .i64 0, .int .i64 0, .string (⟨#[]⟩ : ByteArray)]) (t := 27) ?hr ?_; (case hd => rfl); (case hg => rfl); (case hr => first | (go_simp; done) | (go_simp; rfl)); intro gb143 hg w10 hbox hb; have n0_ := Aside0.mk (below_step Bl hb); have n1_ := Aside0.mk (hbox); have n2_ := Aside0.mk ((by rw [hg]; exact (below_size Bl) : w.heap.size ≤ gb143)); have n3_ := Aside0.mk ((by rw [hg]; exact (below_size Bl) : w.heap.size ≤ gb143)); clear HB; have HB := n0_; have BK143 := n1_; have GW143 := n2_; have GE143 := n3_; clear n0_ n1_ n2_ n3_; clear hb hbox hg; have p8 : 0 ≤ (a1 : Int) := of_decide_eq_true (by first | (with_reducible assumption) | assumption); have q8 : a1 < (a0.size : Int) := of_decide_eq_true (by first | (with_reducible assumption) | assumption); have hx8 := bt_at a0 a1; replace p8 := eq_true p8; replace q8 := eq_true q8))
    (try simp only [Act.put, List.setIfInBounds_toArray, List.set_cons_zero, List.set_cons_succ])
    go_cut [28] (fun v28 wc => ∃ (kq : Nat) (x28_8 : Bool), v28 = .bool x28_8 ∧ Aside0 (spec_l3Read.j0 kq a0 a1 (wrap64 (bt a0 a1)) x28_8 = some (r1, r2, r3, r4, r5)) ∧ Aside0 (kq ≤ k) ∧ Aside0 (wc.heap[gb143]? = some (.cells #[.int .i64 0, .int .i64 0, .int .i64 0, .string (⟨#[]⟩ : ByteArray)] 27 (0, 0))) ∧ Aside0 (Below w.heap.size w wc))
    case first =>
     have H := HC9.out
     clear HC9
     by_cases c11 : (wrap64 (bt a0 a1)) < 5
     ·rw [if_pos c11] at H
      have c11b0 : decide ((wrap64 (bt a0 a1)) < 5) = true := decide_eq_true c11
      clear c11
      (first | rw [c11b0] | (simp only [i64_w, i32_w]; rw [c11b0]) | skip)
      have H' := Aside0.mk H
      clear H
      go_wp2
      go_meet
      case rel => exact ⟨_, (true), (by first | rfl | (simp; done) | (simp [*]; done)), H', ⟨by first | omega | exact Nat.le_refl _⟩, ⟨by (with_reducible repeat (first | refine blk_drewN ?_ _ | refine blk_drew ?_ | refine blk_alloc ?_ _)); exact BK143.out⟩, ⟨by repeat (first | (with_reducible first | exact HB.out | apply below_alloc | apply pw_below_drewN | apply below_drew1 | refine below_set ?_ GE143.out) | exact HB.out)⟩⟩
     ·rw [if_neg c11] at H
      have c11b0 : decide ((wrap64 (bt a0 a1)) < 5) = false := decide_eq_false c11
      clear c11
      (first | rw [c11b0] | (simp only [i64_w, i32_w]; rw [c11b0]) | skip)
      have H' := Aside0.mk H
      clear H
      go_wp2
      go_meet
      case rel => exact ⟨_, (decide ((wrap64 (bt a0 a1)) > (wrap64 ((wrap64 ((a0.size : Int) - a1)) - 1)))), (by first | rfl | (simp; done) | (simp [*]; done)), H', ⟨by first | omega | exact Nat.le_refl _⟩, ⟨by (with_reducible repeat (first | refine blk_drewN ?_ _ | refine blk_drew ?_ | refine blk_alloc ?_ _)); exact BK143.out⟩, ⟨by repeat (first | (with_reducible first | exact HB.out | apply below_alloc | apply pw_below_drewN | apply below_drew1 | refine below_set ?_ GE143.out) | exact HB.out)⟩⟩
    case rest =>
     clear HC9
     try clear c1
     try clear p2
     try clear c3
     try clear c3b0
     try clear c5
     try clear c6
     try clear c6b0
     try clear p6
     try clear c7
     try clear c7b0
     try clear p8
     try clear q8
     try clear hx8
     try clear c11
     try clear c11b0
     try clear hcz5_0
     try clear hcz5_1
     try clear hcz5_2
     try clear hcz5_3
     try clear hfz5_0
     try clear hfz5_1
     try clear hfz5_2
     try clear hfz5_3
     try clear p8
     try clear q8
     obtain ⟨kq, x28_8, rfl, HA, HJ8, BK143, HB⟩ := hcut
     cases kq with
     | zero => exact absurd HA.out (by simp [spec_l3Read.j0])
     | succ kj8 =>
      have H := HA.out
      clear HA
      simp only [spec_l3Read.j0] at H
      by_cases c12 : x28_8 = true
      ·subst c12
       have H1 : (some (0, 0, 0, (⟨#[]⟩ : ByteArray), (-1))) = some (r1, r2, r3, r4, r5) := by rw [if_pos rfl] at H; exact H
       clear H
       have H := H1
       clear H1
       simp only [Option.some.injEq, Prod.mk.injEq] at H
       obtain ⟨rfl, rfl, rfl, rfl, rfl⟩ := H
       have hcz13_0 : wc.cell? ⟨gb143, 0, none⟩ = some (.int .i64 0) := (blk_cell BK143.out 0).trans rfl
       have hcz13_1 : wc.cell? ⟨gb143, 1, none⟩ = some (.int .i64 0) := (blk_cell BK143.out 1).trans rfl
       have hcz13_2 : wc.cell? ⟨gb143, 2, none⟩ = some (.int .i64 0) := (blk_cell BK143.out 2).trans rfl
       have hcz13_3 : wc.cell? ⟨gb143, 3, none⟩ = some (.string (⟨#[]⟩ : ByteArray)) := (blk_cell BK143.out 3).trans rfl
       have hfz13_0 := blk_frozen BK143.out 0
       have hfz13_1 := blk_frozen BK143.out 1
       have hfz13_2 := blk_frozen BK143.out 2
       have hfz13_3 := blk_frozen BK143.out 3
       go_wp2
       refine bodyPost_ret (results_ct rfl _ _ gb143 27 #[.int .i64 0, .int .i64 0, .int .i64 0, .string (⟨#[]⟩ : ByteArray)] (0, 0) _ rfl (by (with_reducible repeat (first | refine blk_drewN ?_ _ | refine blk_drew ?_ | refine blk_alloc ?_ _)); refine blk_put (cs := #[.int .i64 0, .int .i64 0, .int .i64 0, .string (⟨#[]⟩ : ByteArray)]) ?_ 3 _ rfl; (with_reducible repeat (first | refine blk_drewN ?_ _ | refine blk_drew ?_ | refine blk_alloc ?_ _)); refine blk_put (cs := #[.int .i64 0, .int .i64 0, .int .i64 0, .string (⟨#[]⟩ : ByteArray)]) ?_ 2 _ rfl; (with_reducible repeat (first | refine blk_drewN ?_ _ | refine blk_drew ?_ | refine blk_alloc ?_ _)); refine blk_put (cs := #[.int .i64 0, .int .i64 0, .int .i64 0, .string (⟨#[]⟩ : ByteArray)]) ?_ 1 _ rfl; (with_reducible repeat (first | refine blk_drewN ?_ _ | refine blk_drew ?_ | refine blk_alloc ?_ _)); refine blk_put (cs := #[.int .i64 0, .int .i64 0, .int .i64 0, .string (⟨#[]⟩ : ByteArray)]) ?_ 0 _ rfl; (with_reducible repeat (first | refine blk_drewN ?_ _ | refine blk_drew ?_ | refine blk_alloc ?_ _)); exact BK143.out) Try.underlying27 rfl (by kernel_rfl)) rfl ?_
       exact ⟨by first | rfl | (simp [errW_none, errW_some] <;> rfl) | (simp [*, errW_none, errW_some] <;> rfl), by repeat (first | (with_reducible first | exact HB.out | apply below_alloc | apply pw_below_drewN | apply below_drew1 | refine below_set ?_ GE143.out) | exact HB.out)⟩
      ·replace c12 := Bool.eq_false_iff.mpr c12
       subst c12
       have H1 : (if 0 ≤ (wrap64 (a1 + 1)) then (if (wrap64 (a1 + 1)) ≤ (wrap64 ((wrap64 (a1 + 1)) + (wrap64 (bt a0 a1)))) then (if (wrap64 ((wrap64 (a1 + 1)) + (wrap64 (bt a0 a1)))) ≤ (a0.size : Int) then (if 0 < ((a0.extract ((wrap64 (a1 + 1)) : Int).toNat ((wrap64 ((wrap64 (a1 + 1)) + (wrap64 (bt a0 a1)))) : Int).toNat).size : Int) then (if 1 < ((a0.extract ((wrap64 (a1 + 1)) : Int).toNat ((wrap64 ((wrap64 (a1 + 1)) + (wrap64 (bt a0 a1)))) : Int).toNat).size : Int) then (if 2 < ((a0.extract ((wrap64 (a1 + 1)) : Int).toNat ((wrap64 ((wrap64 (a1 + 1)) + (wrap64 (bt a0 a1)))) : Int).toNat).size : Int) then (if 3 ≤ (wrap64 ((wrap64 (bt a0 a1)) - 2)) then (if (wrap64 ((wrap64 (bt a0 a1)) - 2)) ≤ ((a0.extract ((wrap64 (a1 + 1)) : Int).toNat ((wrap64 ((wrap64 (a1 + 1)) + (wrap64 (bt a0 a1)))) : Int).toNat).size : Int) then ((spec_GoodRecord.f (wrap64 (bt (a0.extract ((wrap64 (a1 + 1)) : Int).toNat ((wrap64 ((wrap64 (a1 + 1)) + (wrap64 (bt a0 a1)))) : Int).toNat) 0)) (wrap64 (bt (a0.extract ((wrap64 (a1 + 1)) : Int).toNat ((wrap64 ((wrap64 (a1 + 1)) + (wrap64 (bt a0 a1)))) : Int).toNat) 1)) (wrap64 (bt (a0.extract ((wrap64 (a1 + 1)) : Int).toNat ((wrap64 ((wrap64 (a1 + 1)) + (wrap64 (bt a0 a1)))) : Int).toNat) 2)) ((a0.extract ((wrap64 (a1 + 1)) : Int).toNat ((wrap64 ((wrap64 (a1 + 1)) + (wrap64 (bt a0 a1)))) : Int).toNat).extract 3 ((wrap64 ((wrap64 (bt a0 a1)) - 2)) : Int).toNat)).bind fun t145 => (if t145 = true then ((spec_l3Text.f kj8 (wrap64 (bt (a0.extract ((wrap64 (a1 + 1)) : Int).toNat ((wrap64 ((wrap64 (a1 + 1)) + (wrap64 (bt a0 a1)))) : Int).toNat) 0)) (wrap64 (bt (a0.extract ((wrap64 (a1 + 1)) : Int).toNat ((wrap64 ((wrap64 (a1 + 1)) + (wrap64 (bt a0 a1)))) : Int).toNat) 1)) (wrap64 (bt (a0.extract ((wrap64 (a1 + 1)) : Int).toNat ((wrap64 ((wrap64 (a1 + 1)) + (wrap64 (bt a0 a1)))) : Int).toNat) 2)) ((a0.extract ((wrap64 (a1 + 1)) : Int).toNat ((wrap64 ((wrap64 (a1 + 1)) + (wrap64 (bt a0 a1)))) : Int).toNat).extract 3 ((wrap64 ((wrap64 (bt a0 a1)) - 2)) : Int).toNat)).bind fun t146 => (if 0 ≤ a1 then (if a1 ≤ (wrap64 ((wrap64 (a1 + 1)) + (wrap64 (bt a0 a1)))) then (if t146.toList = (a0.extract (a1 : Int).toNat ((wrap64 ((wrap64 (a1 + 1)) + (wrap64 (bt a0 a1)))) : Int).toNat).toList then (some (wrap64 (bt (a0.extract ((wrap64 (a1 + 1)) : Int).toNat ((wrap64 ((wrap64 (a1 + 1)) + (wrap64 (bt a0 a1)))) : Int).toNat) 0), wrap64 (bt (a0.extract ((wrap64 (a1 + 1)) : Int).toNat ((wrap64 ((wrap64 (a1 + 1)) + (wrap64 (bt a0 a1)))) : Int).toNat) 1), wrap64 (bt (a0.extract ((wrap64 (a1 + 1)) : Int).toNat ((wrap64 ((wrap64 (a1 + 1)) + (wrap64 (bt a0 a1)))) : Int).toNat) 2), (a0.extract ((wrap64 (a1 + 1)) : Int).toNat ((wrap64 ((wrap64 (a1 + 1)) + (wrap64 (bt a0 a1)))) : Int).toNat).extract 3 ((wrap64 ((wrap64 (bt a0 a1)) - 2)) : Int).toNat, wrap64 ((wrap64 (a1 + 1)) + (wrap64 (bt a0 a1))))) else (some (0, 0, 0, (⟨#[]⟩ : ByteArray), (-1)))) else (none)) else (none))) else (some (0, 0, 0, (⟨#[]⟩ : ByteArray), (-1))))) else (none)) else (none)) else (none)) else (none)) else (none)) else (none)) else (none)) else (none)) = some (r1, r2, r3, r4, r5) := by rw [if_neg (show ¬ (false = true) by decide)] at H; exact H
       clear H
       have H := H1
       clear H1
       obtain ⟨ji14, hji14⟩ : ∃ j_ : Int, (wrap64 (a1 + 1)) = j_ := ⟨_, rfl⟩
       replace H : (if 0 ≤ (ji14) then (if (ji14) ≤ (wrap64 ((ji14) + (wrap64 (bt a0 a1)))) then (if (wrap64 ((ji14) + (wrap64 (bt a0 a1)))) ≤ (a0.size : Int) then (if 0 < ((a0.extract ((ji14) : Int).toNat ((wrap64 ((ji14) + (wrap64 (bt a0 a1)))) : Int).toNat).size : Int) then (if 1 < ((a0.extract ((ji14) : Int).toNat ((wrap64 ((ji14) + (wrap64 (bt a0 a1)))) : Int).toNat).size : Int) then (if 2 < ((a0.extract ((ji14) : Int).toNat ((wrap64 ((ji14) + (wrap64 (bt a0 a1)))) : Int).toNat).size : Int) then (if 3 ≤ (wrap64 ((wrap64 (bt a0 a1)) - 2)) then (if (wrap64 ((wrap64 (bt a0 a1)) - 2)) ≤ ((a0.extract ((ji14) : Int).toNat ((wrap64 ((ji14) + (wrap64 (bt a0 a1)))) : Int).toNat).size : Int) then ((spec_GoodRecord.f (wrap64 (bt (a0.extract ((ji14) : Int).toNat ((wrap64 ((ji14) + (wrap64 (bt a0 a1)))) : Int).toNat) 0)) (wrap64 (bt (a0.extract ((ji14) : Int).toNat ((wrap64 ((ji14) + (wrap64 (bt a0 a1)))) : Int).toNat) 1)) (wrap64 (bt (a0.extract ((ji14) : Int).toNat ((wrap64 ((ji14) + (wrap64 (bt a0 a1)))) : Int).toNat) 2)) ((a0.extract ((ji14) : Int).toNat ((wrap64 ((ji14) + (wrap64 (bt a0 a1)))) : Int).toNat).extract 3 ((wrap64 ((wrap64 (bt a0 a1)) - 2)) : Int).toNat)).bind fun t145 => (if t145 = true then ((spec_l3Text.f kj8 (wrap64 (bt (a0.extract ((ji14) : Int).toNat ((wrap64 ((ji14) + (wrap64 (bt a0 a1)))) : Int).toNat) 0)) (wrap64 (bt (a0.extract ((ji14) : Int).toNat ((wrap64 ((ji14) + (wrap64 (bt a0 a1)))) : Int).toNat) 1)) (wrap64 (bt (a0.extract ((ji14) : Int).toNat ((wrap64 ((ji14) + (wrap64 (bt a0 a1)))) : Int).toNat) 2)) ((a0.extract ((ji14) : Int).toNat ((wrap64 ((ji14) + (wrap64 (bt a0 a1)))) : Int).toNat).extract 3 ((wrap64 ((wrap64 (bt a0 a1)) - 2)) : Int).toNat)).bind fun t146 => (if 0 ≤ a1 then (if a1 ≤ (wrap64 ((ji14) + (wrap64 (bt a0 a1)))) then (if t146.toList = (a0.extract (a1 : Int).toNat ((wrap64 ((ji14) + (wrap64 (bt a0 a1)))) : Int).toNat).toList then (some (wrap64 (bt (a0.extract ((ji14) : Int).toNat ((wrap64 ((ji14) + (wrap64 (bt a0 a1)))) : Int).toNat) 0), wrap64 (bt (a0.extract ((ji14) : Int).toNat ((wrap64 ((ji14) + (wrap64 (bt a0 a1)))) : Int).toNat) 1), wrap64 (bt (a0.extract ((ji14) : Int).toNat ((wrap64 ((ji14) + (wrap64 (bt a0 a1)))) : Int).toNat) 2), (a0.extract ((ji14) : Int).toNat ((wrap64 ((ji14) + (wrap64 (bt a0 a1)))) : Int).toNat).extract 3 ((wrap64 ((wrap64 (bt a0 a1)) - 2)) : Int).toNat, wrap64 ((ji14) + (wrap64 (bt a0 a1))))) else (some (0, 0, 0, (⟨#[]⟩ : ByteArray), (-1)))) else (none)) else (none))) else (some (0, 0, 0, (⟨#[]⟩ : ByteArray), (-1))))) else (none)) else (none)) else (none)) else (none)) else (none)) else (none)) else (none)) else (none)) = some (r1, r2, r3, r4, r5) := by first | (rw [hji14] at H; exact H) | (simp only [hji14] at H ⊢; exact H)
       have hji14w : (IntKind.i64.wrap (a1 + 1)) = ji14 := (i64_w _).trans hji14
       by_cases c15 : 0 ≤ (ji14)
       ·rw [if_pos c15] at H
        have c15b0 := eq_true c15
        have c15b1 : decide (0 ≤ (ji14)) = true := decide_eq_true c15
        clear c15
        by_cases c16 : (ji14) ≤ (wrap64 ((ji14) + (wrap64 (bt a0 a1))))
        ·rw [if_pos c16] at H
         have c16b0 := eq_true c16
         have c16b1 : decide ((ji14) ≤ (wrap64 ((ji14) + (wrap64 (bt a0 a1))))) = true := decide_eq_true c16
         by_cases c17 : (wrap64 ((ji14) + (wrap64 (bt a0 a1)))) ≤ (a0.size : Int)
         ·rw [if_pos c17] at H
          have c17b0 := eq_true c17
          have c17b1 : decide ((wrap64 ((ji14) + (wrap64 (bt a0 a1)))) ≤ (a0.size : Int)) = true := decide_eq_true c17
          by_cases c18 : 0 < ((a0.extract ((ji14) : Int).toNat ((wrap64 ((ji14) + (wrap64 (bt a0 a1)))) : Int).toNat).size : Int)
          ·rw [if_pos c18] at H
           have c18b0 : decide (0 < ((a0.extract ((ji14) : Int).toNat ((wrap64 ((ji14) + (wrap64 (bt a0 a1)))) : Int).toNat).size : Int)) = true := decide_eq_true c18
           have c18b1 : decide (0 < (a0.extract ((ji14) : Int).toNat ((wrap64 ((ji14) + (wrap64 (bt a0 a1)))) : Int).toNat).size) = true := decide_eq_true (by omega)
           clear c18
           by_cases c20 : 1 < ((a0.extract ((ji14) : Int).toNat ((wrap64 ((ji14) + (wrap64 (bt a0 a1)))) : Int).toNat).size : Int)
           ·rw [if_pos c20] at H
            have c20b0 : decide (1 < ((a0.extract ((ji14) : Int).toNat ((wrap64 ((ji14) + (wrap64 (bt a0 a1)))) : Int).toNat).size : Int)) = true := decide_eq_true c20
            have c20b1 : decide (1 < (a0.extract ((ji14) : Int).toNat ((wrap64 ((ji14) + (wrap64 (bt a0 a1)))) : Int).toNat).size) = true := decide_eq_true (by omega)
            clear c20
            by_cases c22 : 2 < ((a0.extract ((ji14) : Int).toNat ((wrap64 ((ji14) + (wrap64 (bt a0 a1)))) : Int).toNat).size : Int)
            ·rw [if_pos c22] at H
             have c22b0 : decide (2 < ((a0.extract ((ji14) : Int).toNat ((wrap64 ((ji14) + (wrap64 (bt a0 a1)))) : Int).toNat).size : Int)) = true := decide_eq_true c22
             have c22b1 : decide (2 < (a0.extract ((ji14) : Int).toNat ((wrap64 ((ji14) + (wrap64 (bt a0 a1)))) : Int).toNat).size) = true := decide_eq_true (by omega)
             clear c22
             by_cases c24 : 3 ≤ (wrap64 ((wrap64 (bt a0 a1)) - 2))
             ·rw [if_pos c24] at H
              have c24b0 := eq_true c24
              have c24b1 : decide (3 ≤ (wrap64 ((wrap64 (bt a0 a1)) - 2))) = true := decide_eq_true c24
              clear c24
              by_cases c25 : (wrap64 ((wrap64 (bt a0 a1)) - 2)) ≤ ((a0.extract ((ji14) : Int).toNat ((wrap64 ((ji14) + (wrap64 (bt a0 a1)))) : Int).toNat).size : Int)
              ·rw [if_pos c25] at H
               have c25b0 := eq_true c25
               have c25b1 : decide ((wrap64 ((wrap64 (bt a0 a1)) - 2)) ≤ ((a0.extract ((ji14) : Int).toNat ((wrap64 ((ji14) + (wrap64 (bt a0 a1)))) : Int).toNat).size : Int)) = true := decide_eq_true c25
               replace H := Option.bind_eq_some_iff.mp H
               obtain ⟨t145, A260, H⟩ := H
               replace H : (if t145 = true then ((spec_l3Text.f kj8 (wrap64 (bt (a0.extract ((ji14) : Int).toNat ((wrap64 ((ji14) + (wrap64 (bt a0 a1)))) : Int).toNat) 0)) (wrap64 (bt (a0.extract ((ji14) : Int).toNat ((wrap64 ((ji14) + (wrap64 (bt a0 a1)))) : Int).toNat) 1)) (wrap64 (bt (a0.extract ((ji14) : Int).toNat ((wrap64 ((ji14) + (wrap64 (bt a0 a1)))) : Int).toNat) 2)) ((a0.extract ((ji14) : Int).toNat ((wrap64 ((ji14) + (wrap64 (bt a0 a1)))) : Int).toNat).extract 3 ((wrap64 ((wrap64 (bt a0 a1)) - 2)) : Int).toNat)).bind fun t146 => (if 0 ≤ a1 then (if a1 ≤ (wrap64 ((ji14) + (wrap64 (bt a0 a1)))) then (if t146.toList = (a0.extract (a1 : Int).toNat ((wrap64 ((ji14) + (wrap64 (bt a0 a1)))) : Int).toNat).toList then (some (wrap64 (bt (a0.extract ((ji14) : Int).toNat ((wrap64 ((ji14) + (wrap64 (bt a0 a1)))) : Int).toNat) 0), wrap64 (bt (a0.extract ((ji14) : Int).toNat ((wrap64 ((ji14) + (wrap64 (bt a0 a1)))) : Int).toNat) 1), wrap64 (bt (a0.extract ((ji14) : Int).toNat ((wrap64 ((ji14) + (wrap64 (bt a0 a1)))) : Int).toNat) 2), (a0.extract ((ji14) : Int).toNat ((wrap64 ((ji14) + (wrap64 (bt a0 a1)))) : Int).toNat).extract 3 ((wrap64 ((wrap64 (bt a0 a1)) - 2)) : Int).toNat, wrap64 ((ji14) + (wrap64 (bt a0 a1))))) else (some (0, 0, 0, (⟨#[]⟩ : ByteArray), (-1)))) else (none)) else (none))) else (some (0, 0, 0, (⟨#[]⟩ : ByteArray), (-1)))) = some (r1, r2, r3, r4, r5) := H
               have A26 := Aside0.mk A260
               clear A260
               by_cases c27 : t145 = true
               ·subst c27
                have H1 : ((spec_l3Text.f kj8 (wrap64 (bt (a0.extract ((ji14) : Int).toNat ((wrap64 ((ji14) + (wrap64 (bt a0 a1)))) : Int).toNat) 0)) (wrap64 (bt (a0.extract ((ji14) : Int).toNat ((wrap64 ((ji14) + (wrap64 (bt a0 a1)))) : Int).toNat) 1)) (wrap64 (bt (a0.extract ((ji14) : Int).toNat ((wrap64 ((ji14) + (wrap64 (bt a0 a1)))) : Int).toNat) 2)) ((a0.extract ((ji14) : Int).toNat ((wrap64 ((ji14) + (wrap64 (bt a0 a1)))) : Int).toNat).extract 3 ((wrap64 ((wrap64 (bt a0 a1)) - 2)) : Int).toNat)).bind fun t146 => (if 0 ≤ a1 then (if a1 ≤ (wrap64 ((ji14) + (wrap64 (bt a0 a1)))) then (if t146.toList = (a0.extract (a1 : Int).toNat ((wrap64 ((ji14) + (wrap64 (bt a0 a1)))) : Int).toNat).toList then (some (wrap64 (bt (a0.extract ((ji14) : Int).toNat ((wrap64 ((ji14) + (wrap64 (bt a0 a1)))) : Int).toNat) 0), wrap64 (bt (a0.extract ((ji14) : Int).toNat ((wrap64 ((ji14) + (wrap64 (bt a0 a1)))) : Int).toNat) 1), wrap64 (bt (a0.extract ((ji14) : Int).toNat ((wrap64 ((ji14) + (wrap64 (bt a0 a1)))) : Int).toNat) 2), (a0.extract ((ji14) : Int).toNat ((wrap64 ((ji14) + (wrap64 (bt a0 a1)))) : Int).toNat).extract 3 ((wrap64 ((wrap64 (bt a0 a1)) - 2)) : Int).toNat, wrap64 ((ji14) + (wrap64 (bt a0 a1))))) else (some (0, 0, 0, (⟨#[]⟩ : ByteArray), (-1)))) else (none)) else (none))) = some (r1, r2, r3, r4, r5) := by rw [if_pos rfl] at H; exact H
                clear H
                have H := H1
                clear H1
                replace H := Option.bind_eq_some_iff.mp H
                obtain ⟨t146, A280, H⟩ := H
                replace H : (if 0 ≤ a1 then (if a1 ≤ (wrap64 ((ji14) + (wrap64 (bt a0 a1)))) then (if t146.toList = (a0.extract (a1 : Int).toNat ((wrap64 ((ji14) + (wrap64 (bt a0 a1)))) : Int).toNat).toList then (some (wrap64 (bt (a0.extract ((ji14) : Int).toNat ((wrap64 ((ji14) + (wrap64 (bt a0 a1)))) : Int).toNat) 0), wrap64 (bt (a0.extract ((ji14) : Int).toNat ((wrap64 ((ji14) + (wrap64 (bt a0 a1)))) : Int).toNat) 1), wrap64 (bt (a0.extract ((ji14) : Int).toNat ((wrap64 ((ji14) + (wrap64 (bt a0 a1)))) : Int).toNat) 2), (a0.extract ((ji14) : Int).toNat ((wrap64 ((ji14) + (wrap64 (bt a0 a1)))) : Int).toNat).extract 3 ((wrap64 ((wrap64 (bt a0 a1)) - 2)) : Int).toNat, wrap64 ((ji14) + (wrap64 (bt a0 a1))))) else (some (0, 0, 0, (⟨#[]⟩ : ByteArray), (-1)))) else (none)) else (none)) = some (r1, r2, r3, r4, r5) := H
                have A28 := Aside0.mk A280
                clear A280
                by_cases c29 : 0 ≤ a1
                ·rw [if_pos c29] at H
                 have c29b0 := eq_true c29
                 have c29b1 : decide (0 ≤ a1) = true := decide_eq_true c29
                 clear c29
                 by_cases c30 : a1 ≤ (wrap64 ((ji14) + (wrap64 (bt a0 a1))))
                 ·rw [if_pos c30] at H
                  have c30b0 := eq_true c30
                  have c30b1 : decide (a1 ≤ (wrap64 ((ji14) + (wrap64 (bt a0 a1))))) = true := decide_eq_true c30
                  have c31b0 := eq_true (of_decide_eq_true (by first | (with_reducible assumption) | assumption) : (wrap64 ((ji14) + (wrap64 (bt a0 a1)))) ≤ (a0.size : Int))
                  by_cases c32 : t146.toList = (a0.extract (a1 : Int).toNat ((wrap64 ((ji14) + (wrap64 (bt a0 a1)))) : Int).toNat).toList
                  ·rw [if_pos c32] at H
                   have c32b0 : (t146.toList == (a0.extract (a1 : Int).toNat ((wrap64 ((ji14) + (wrap64 (bt a0 a1)))) : Int).toNat).toList) = true := beq_iff_eq.mpr c32
                   have c32b1 : (t146.toList != (a0.extract (a1 : Int).toNat ((wrap64 ((ji14) + (wrap64 (bt a0 a1)))) : Int).toNat).toList) = false := bne_eq_false_iff_eq.mpr c32
                   clear c32
                   simp only [Option.some.injEq, Prod.mk.injEq] at H
                   obtain ⟨rfl, rfl, rfl, rfl, rfl⟩ := H
                   try go_wp2
                   have n0_ := Aside0.mk (blk_drew BK143.out)
                   have n1_ := Aside0.mk (below_drew1 HB.out)
                   clear BK143
                   clear HB
                   have BK143 := n0_
                   have HB := n1_
                   clear n0_ n1_
                   have p19 : 0 ≤ (0 : Int) := (by omega)
                   have q19 : 0 < (a0.extract ((ji14) : Int).toNat ((wrap64 ((ji14) + (wrap64 (bt a0 a1)))) : Int).toNat).size := (by have : (0 : Int) < ((a0.extract ((ji14) : Int).toNat ((wrap64 ((ji14) + (wrap64 (bt a0 a1)))) : Int).toNat).size : Int) := of_decide_eq_true (by first | (with_reducible assumption) | assumption); omega)
                   have hx19 : ∀ h : 0 < (a0.extract ((ji14) : Int).toNat ((wrap64 ((ji14) + (wrap64 (bt a0 a1)))) : Int).toNat).size, (((a0.extract ((ji14) : Int).toNat ((wrap64 ((ji14) + (wrap64 (bt a0 a1)))) : Int).toNat)[0]'h).toNat : Int) = bt (a0.extract ((ji14) : Int).toNat ((wrap64 ((ji14) + (wrap64 (bt a0 a1)))) : Int).toNat) 0 := bt_at (a0.extract ((ji14) : Int).toNat ((wrap64 ((ji14) + (wrap64 (bt a0 a1)))) : Int).toNat) 0
                   clear p19
                   have qi19 : (0 < ((a0.extract ((ji14) : Int).toNat ((wrap64 ((ji14) + (wrap64 (bt a0 a1)))) : Int).toNat).size : Int)) = True := eq_true (of_decide_eq_true (by first | (with_reducible assumption) | assumption))
                   replace q19 := eq_true q19
                   have p21 : 0 ≤ (1 : Int) := (by omega)
                   have q21 : 1 < (a0.extract ((ji14) : Int).toNat ((wrap64 ((ji14) + (wrap64 (bt a0 a1)))) : Int).toNat).size := (by have : (1 : Int) < ((a0.extract ((ji14) : Int).toNat ((wrap64 ((ji14) + (wrap64 (bt a0 a1)))) : Int).toNat).size : Int) := of_decide_eq_true (by first | (with_reducible assumption) | assumption); omega)
                   have hx21 : ∀ h : 1 < (a0.extract ((ji14) : Int).toNat ((wrap64 ((ji14) + (wrap64 (bt a0 a1)))) : Int).toNat).size, (((a0.extract ((ji14) : Int).toNat ((wrap64 ((ji14) + (wrap64 (bt a0 a1)))) : Int).toNat)[1]'h).toNat : Int) = bt (a0.extract ((ji14) : Int).toNat ((wrap64 ((ji14) + (wrap64 (bt a0 a1)))) : Int).toNat) 1 := bt_at (a0.extract ((ji14) : Int).toNat ((wrap64 ((ji14) + (wrap64 (bt a0 a1)))) : Int).toNat) 1
                   clear p21
                   have qi21 : (1 < ((a0.extract ((ji14) : Int).toNat ((wrap64 ((ji14) + (wrap64 (bt a0 a1)))) : Int).toNat).size : Int)) = True := eq_true (of_decide_eq_true (by first | (with_reducible assumption) | assumption))
                   replace q21 := eq_true q21
                   have p23 : 0 ≤ (2 : Int) := (by omega)
                   have q23 : 2 < (a0.extract ((ji14) : Int).toNat ((wrap64 ((ji14) + (wrap64 (bt a0 a1)))) : Int).toNat).size := (by have : (2 : Int) < ((a0.extract ((ji14) : Int).toNat ((wrap64 ((ji14) + (wrap64 (bt a0 a1)))) : Int).toNat).size : Int) := of_decide_eq_true (by first | (with_reducible assumption) | assumption); omega)
                   have hx23 : ∀ h : 2 < (a0.extract ((ji14) : Int).toNat ((wrap64 ((ji14) + (wrap64 (bt a0 a1)))) : Int).toNat).size, (((a0.extract ((ji14) : Int).toNat ((wrap64 ((ji14) + (wrap64 (bt a0 a1)))) : Int).toNat)[2]'h).toNat : Int) = bt (a0.extract ((ji14) : Int).toNat ((wrap64 ((ji14) + (wrap64 (bt a0 a1)))) : Int).toNat) 2 := bt_at (a0.extract ((ji14) : Int).toNat ((wrap64 ((ji14) + (wrap64 (bt a0 a1)))) : Int).toNat) 2
                   clear p23
                   have qi23 : (2 < ((a0.extract ((ji14) : Int).toNat ((wrap64 ((ji14) + (wrap64 (bt a0 a1)))) : Int).toNat).size : Int)) = True := eq_true (of_decide_eq_true (by first | (with_reducible assumption) | assumption))
                   replace q23 := eq_true q23
                   have hN_ : (a0.extract ((ji14) : Int).toNat ((wrap64 ((ji14) + (wrap64 (bt a0 a1)))) : Int).toNat).size = ((wrap64 ((ji14) + (wrap64 (bt a0 a1)))) : Int).toNat - ((ji14) : Int).toNat := by rw [ByteArray.size_extract, Nat.min_eq_left (Int.toNat_le.2 (by assumption))]
                   try (have zq19 := q19; rw [hN_] at zq19)
                   try (have zqi19 := qi19; rw [hN_] at zqi19)
                   try (have zq21 := q21; rw [hN_] at zq21)
                   try (have zqi21 := qi21; rw [hN_] at zqi21)
                   try (have zq23 := q23; rw [hN_] at zq23)
                   try (have zqi23 := qi23; rw [hN_] at zqi23)
                   try (have zc18b0 := c18b0; rw [hN_] at zc18b0)
                   try (have zc18b1 := c18b1; rw [hN_] at zc18b1)
                   try (have zc20b0 := c20b0; rw [hN_] at zc20b0)
                   try (have zc20b1 := c20b1; rw [hN_] at zc20b1)
                   try (have zc22b0 := c22b0; rw [hN_] at zc22b0)
                   try (have zc22b1 := c22b1; rw [hN_] at zc22b1)
                   try (have zc25b1 := c25b1; rw [hN_] at zc25b1)
                   try (have zc25b0 := c25b0; rw [hN_] at zc25b0)
                   refine start_ (n := 16) (S := fun w' => True) (ds := []) #[O,O,O,O,O,O,O,O,O,O,O,O,O,O,O,O] (by kernel_rfl) rfl rfl trivial (fun hHeld => ?_); refine with_tabW spec_l3Read.tab7 spec_l3Read.bits7 (fun HT_ HW_ => ?_)
                   generalize wc.drew = w33 at BK143 HB hHeld ⊢
                   refine pure_ (i := 0) (N := some 38) (v := ?_) (a' := ?_) #[Y,O,O,O,O,O,O,O,O,O,O,O,O,O,O,O] rfl rfl (any_of HT_.out (by kernel_rfl)) (fun _ _ _ h => h) (Or.inl ⟨by rfl, ?_⟩) ?_ ?_
                   rotate_left
                   ·intro w'
                    go_simp
                    with_reducible rfl
                   rotate_left
                   ·simp only [Act.put, List.setIfInBounds_toArray, List.set_cons_zero, List.set_cons_succ, i64_w, i32_w]
                    rfl
                   refine pure_ (i := 3) (N := some 41) (v := ?_) (a' := ?_) #[Y,O,O,Y,O,O,O,O,O,O,O,O,O,O,O,O] rfl rfl (any_of HT_.out (by kernel_rfl)) (fun _ _ _ h => h) (Or.inl ⟨by rfl, ?_⟩) ?_ ?_
                   rotate_left
                   ·intro w'
                    go_simp
                    with_reducible rfl
                   rotate_left
                   ·simp only [Act.put, List.setIfInBounds_toArray, List.set_cons_zero, List.set_cons_succ, i64_w, i32_w]
                    rfl
                   refine pure_ (i := 6) (N := some 44) (v := ?_) (a' := ?_) #[Y,O,O,Y,O,O,Y,O,O,O,O,O,O,O,O,O] rfl rfl (any_of HT_.out (by kernel_rfl)) (fun _ _ _ h => h) (Or.inl ⟨by rfl, ?_⟩) ?_ ?_
                   rotate_left
                   ·intro w'
                    go_simp
                    with_reducible rfl
                   rotate_left
                   ·simp only [Act.put, List.setIfInBounds_toArray, List.set_cons_zero, List.set_cons_succ, i64_w, i32_w]
                    rfl
                   refine pure_ (i := 9) (N := some 47) (v := ?_) (a' := ?_) #[Y,O,O,Y,O,O,Y,O,O,Y,O,O,O,O,O,O] rfl rfl (any_of HT_.out (by kernel_rfl)) (fun _ _ _ h => h) (Or.inl ⟨by rfl, ?_⟩) ?_ ?_
                   rotate_left
                   ·intro w'
                    go_simp
                    with_reducible rfl
                   rotate_left
                   ·simp only [Act.put, List.setIfInBounds_toArray, List.set_cons_zero, List.set_cons_succ, i64_w, i32_w]
                    rfl
                   refine pure_ (i := 10) (N := some 48) (v := ?_) (a' := ?_) #[Y,O,O,Y,O,O,Y,O,O,Y,Y,O,O,O,O,O] rfl rfl (any_of HT_.out (by kernel_rfl)) (fun _ _ _ h => h) (Or.inl ⟨by rfl, ?_⟩) ?_ ?_
                   rotate_left
                   ·intro w'
                    go_simp
                    with_reducible rfl
                   rotate_left
                   ·simp only [Act.put, List.setIfInBounds_toArray, List.set_cons_zero, List.set_cons_succ, i64_w, i32_w]
                    rfl
                   refine pure_ (i := 11) (N := some 49) (v := ?_) (a' := ?_) #[Y,O,O,Y,O,O,Y,O,O,Y,Y,Y,O,O,O,O] rfl rfl (any_of HT_.out (by kernel_rfl)) (fun _ _ _ h => h) (Or.inl ⟨by rfl, ?_⟩) ?_ ?_
                   rotate_left
                   ·intro w'
                    go_simp
                    with_reducible rfl
                   rotate_left
                   ·simp only [Act.put, List.setIfInBounds_toArray, List.set_cons_zero, List.set_cons_succ, i64_w, i32_w]
                    rfl
                   refine pure_ (i := 12) (N := some 50) (v := ?_) (a' := ?_) #[Y,O,O,Y,O,O,Y,O,O,Y,Y,Y,Y,O,O,O] rfl rfl (any_of HT_.out (by kernel_rfl)) (fun _ _ _ h => h) (Or.inl ⟨by rfl, ?_⟩) ?_ ?_
                   rotate_left
                   ·intro w'
                    go_simp
                    with_reducible rfl
                   rotate_left
                   ·simp only [Act.put, List.setIfInBounds_toArray, List.set_cons_zero, List.set_cons_succ, i64_w, i32_w]
                    rfl
                   refine take_ (i := 1) (N := some 39) (v := ?_) (a' := ?_) #[Y,Y,O,Y,O,O,Y,O,O,Y,Y,Y,Y,O,O,O] rfl rfl (take_ofW HT_.out HW_.out (by kernel_rfl)) (fun _ _ _ h => h) (Or.inl ⟨by rfl, ?_⟩) hHeld ?_ ?_
                   rotate_left
                   ·intro w' _
                    go_simp
                    with_reducible rfl
                   rotate_left
                   ·simp only [Act.put, List.setIfInBounds_toArray, List.set_cons_zero, List.set_cons_succ, i64_w, i32_w]
                    rfl
                   refine pure_ (i := 2) (N := some 40) (v := ?_) (a' := ?_) #[Y,Y,Y,Y,O,O,Y,O,O,Y,Y,Y,Y,O,O,O] rfl rfl (any_of HT_.out (by kernel_rfl)) (fun _ _ _ h => h) (Or.inl ⟨by rfl, ?_⟩) ?_ ?_
                   rotate_left
                   ·intro w'
                    go_simp
                    with_reducible rfl
                   rotate_left
                   ·simp only [Act.put, List.setIfInBounds_toArray, List.set_cons_zero, List.set_cons_succ, i64_w, i32_w]
                    rfl
                   refine take_ (i := 4) (N := some 42) (v := ?_) (a' := ?_) #[Y,Y,Y,Y,Y,O,Y,O,O,Y,Y,Y,Y,O,O,O] rfl rfl (take_ofW HT_.out HW_.out (by kernel_rfl)) (fun _ _ _ h => h) (Or.inl ⟨by rfl, ?_⟩) hHeld ?_ ?_
                   rotate_left
                   ·intro w' _
                    go_simp
                    with_reducible rfl
                   rotate_left
                   ·simp only [Act.put, List.setIfInBounds_toArray, List.set_cons_zero, List.set_cons_succ, i64_w, i32_w]
                    rfl
                   refine pure_ (i := 5) (N := some 43) (v := ?_) (a' := ?_) #[Y,Y,Y,Y,Y,Y,Y,O,O,Y,Y,Y,Y,O,O,O] rfl rfl (any_of HT_.out (by kernel_rfl)) (fun _ _ _ h => h) (Or.inl ⟨by rfl, ?_⟩) ?_ ?_
                   rotate_left
                   ·intro w'
                    go_simp
                    with_reducible rfl
                   rotate_left
                   ·simp only [Act.put, List.setIfInBounds_toArray, List.set_cons_zero, List.set_cons_succ, i64_w, i32_w]
                    rfl
                   refine take_ (i := 7) (N := some 45) (v := ?_) (a' := ?_) #[Y,Y,Y,Y,Y,Y,Y,Y,O,Y,Y,Y,Y,O,O,O] rfl rfl (take_ofW HT_.out HW_.out (by kernel_rfl)) (fun _ _ _ h => h) (Or.inl ⟨by rfl, ?_⟩) hHeld ?_ ?_
                   rotate_left
                   ·intro w' _
                    go_simp
                    with_reducible rfl
                   rotate_left
                   ·simp only [Act.put, List.setIfInBounds_toArray, List.set_cons_zero, List.set_cons_succ, i64_w, i32_w]
                    rfl
                   refine pure_ (i := 8) (N := some 46) (v := ?_) (a' := ?_) #[Y,Y,Y,Y,Y,Y,Y,Y,Y,Y,Y,Y,Y,O,O,O] rfl rfl (any_of HT_.out (by kernel_rfl)) (fun _ _ _ h => h) (Or.inl ⟨by rfl, ?_⟩) ?_ ?_
                   rotate_left
                   ·intro w'
                    go_simp
                    with_reducible rfl
                   rotate_left
                   ·simp only [Act.put, List.setIfInBounds_toArray, List.set_cons_zero, List.set_cons_succ, i64_w, i32_w]
                    rfl
                   refine pure_ (i := 13) (N := some 51) (v := ?_) (a' := ?_) #[Y,Y,Y,Y,Y,Y,Y,Y,Y,Y,Y,Y,Y,Y,O,O] rfl rfl (any_of HT_.out (by kernel_rfl)) (fun _ _ _ h => h) (Or.inl ⟨by rfl, ?_⟩) ?_ ?_
                   rotate_left
                   ·intro w'
                    go_simp
                    with_reducible rfl
                   rotate_left
                   ·simp only [Act.put, List.setIfInBounds_toArray, List.set_cons_zero, List.set_cons_succ, i64_w, i32_w]
                    rfl
                   refine one_ (i := 14) (N := some 8) #[Y,Y,Y,Y,Y,Y,Y,Y,Y,Y,Y,Y,Y,Y,Y,O] rfl rfl (one_of HT_.out (by kernel_rfl)) (by decide) (fun K hK => ?_)
                   refine box_step ?hg (N := 8) ?hd (cs := #[.int .i64 0, .int .i64 0, .int .i64 0, .string (⟨#[]⟩ : ByteArray)]) (t := 27) ?hr ?_; (case hd => rfl); (case hg => rfl); (case hr => first | (go_simp; done) | (go_simp; rfl))
                   intro gb144 hg w34 hbox hb
                   have n0_ := Aside0.mk (blk_below (g := gb143) (o := .cells #[.int .i64 0, .int .i64 0, .int .i64 0, .string (⟨#[]⟩ : ByteArray)] 27 (0, 0)) (by (with_reducible repeat (first | refine blk_drewN ?_ _ | refine blk_drew ?_ | refine blk_alloc ?_ _)); exact BK143.out) hb)
                   have n1_ := Aside0.mk (below_step (by repeat (first | (with_reducible first | exact HB.out | apply below_alloc | apply pw_below_drewN | apply below_drew1 | refine below_set ?_ GE143.out) | exact HB.out)) hb)
                   have n2_ := Aside0.mk (hbox)
                   have n3_ := Aside0.mk ((by rw [hg]; exact (below_size (by repeat (first | (with_reducible first | exact HB.out | apply below_alloc | apply pw_below_drewN | apply below_drew1 | refine below_set ?_ GE143.out) | exact HB.out))) : w.heap.size ≤ gb144))
                   have n4_ := Aside0.mk ((by rw [hg]; exact (below_size (by repeat (first | (with_reducible first | exact HB.out | apply below_alloc | apply pw_below_drewN | apply below_drew1 | refine below_set ?_ GE143.out) | exact HB.out))) : w.heap.size ≤ gb144))
                   have n5_ := Aside0.mk ((by rw [hg]; exact Nat.ne_of_lt (blk_lt (g := gb143) (o := .cells #[.int .i64 0, .int .i64 0, .int .i64 0, .string (⟨#[]⟩ : ByteArray)] 27 (0, 0)) (by (with_reducible repeat (first | refine blk_drewN ?_ _ | refine blk_drew ?_ | refine blk_alloc ?_ _)); exact BK143.out)) : gb143 ≠ gb144))
                   have n6_ := Aside0.mk ((by rw [hg]; exact Nat.ne_of_gt (blk_lt (g := gb143) (o := .cells #[.int .i64 0, .int .i64 0, .int .i64 0, .string (⟨#[]⟩ : ByteArray)] 27 (0, 0)) (by (with_reducible repeat (first | refine blk_drewN ?_ _ | refine blk_drew ?_ | refine blk_alloc ?_ _)); exact BK143.out)) : gb144 ≠ gb143))
                   clear BK143
                   clear HB
                   have BK143 := n0_
                   have HB := n1_
                   have BK144 := n2_
                   have GW144 := n3_
                   have GE144 := n4_
                   have NB143_144 := n5_
                   have NB144_143 := n6_
                   clear n0_ n1_ n2_ n3_ n4_ n5_ n6_
                   clear hb hbox hg
                   refine hK.out _ _ trivial (fun hHeld => ?_)
                   clear hK K
                   refine norm_ (a' := ?_) ?_ ?_
                   rotate_left
                   ·show Act.put _ (some 8) _ = _
                    simp only [Act.put, List.setIfInBounds_toArray, List.set_cons_zero, List.set_cons_succ, i64_w, i32_w]
                    rfl
                   refine one_ (i := 15) (N := none) #[Y,Y,Y,Y,Y,Y,Y,Y,Y,Y,Y,Y,Y,Y,Y,Y] rfl rfl (one_of HT_.out (by kernel_rfl)) (by decide) (fun K hK => ?_)
                   have hs35 : w34.cell? ⟨gb144, 0, none⟩ = some (.int .i64 0) := (blk_cell BK144.out 0).trans rfl
                   have hfs35 := blk_frozen BK144.out 0
                   have hns35_0 := NB143_144.out
                   have hms35_0 := NB144_143.out
                   have hs36 : w34.cell? ⟨gb144, 1, none⟩ = some (.int .i64 0) := (blk_cell BK144.out 1).trans rfl
                   have hfs36 := blk_frozen BK144.out 1
                   have hns36_0 := NB143_144.out
                   have hms36_0 := NB144_143.out
                   have hs37 : w34.cell? ⟨gb144, 2, none⟩ = some (.int .i64 0) := (blk_cell BK144.out 2).trans rfl
                   have hfs37 := blk_frozen BK144.out 2
                   have hns37_0 := NB143_144.out
                   have hms37_0 := NB144_143.out
                   have hs38 : w34.cell? ⟨gb144, 3, none⟩ = some (.string (⟨#[]⟩ : ByteArray)) := (blk_cell BK144.out 3).trans rfl
                   have hfs38 := blk_frozen BK144.out 3
                   have hns38_0 := NB143_144.out
                   have hms38_0 := NB144_143.out
                   refine skip_ (w1 := ?_) (by rfl) rfl ?_ ?_
                   rotate_left
                   ·go_simp
                    rfl
                   refine hK.out _ _ trivial (fun hHeld => ?_)
                   clear hK K
                   refine done_ (done_of HT_.out (by kernel_rfl)) ?_
                   try go_wp2
                   have n0_ : Aside0 (((((w34.setCell ⟨gb144, 0, none⟩ (.int .i64 (wrap64 (bt (a0.extract ((ji14) : Int).toNat ((wrap64 ((ji14) + (wrap64 (bt a0 a1)))) : Int).toNat) 0)))).setCell ⟨gb144, 1, none⟩ (.int .i64 (wrap64 (bt (a0.extract ((ji14) : Int).toNat ((wrap64 ((ji14) + (wrap64 (bt a0 a1)))) : Int).toNat) 1)))).setCell ⟨gb144, 2, none⟩ (.int .i64 (wrap64 (bt (a0.extract ((ji14) : Int).toNat ((wrap64 ((ji14) + (wrap64 (bt a0 a1)))) : Int).toNat) 2)))).setCell ⟨gb144, 3, none⟩ (.string ((a0.extract ((ji14) : Int).toNat ((wrap64 ((ji14) + (wrap64 (bt a0 a1)))) : Int).toNat).extract 3 ((wrap64 ((wrap64 (bt a0 a1)) - 2)) : Int).toNat))).heap[gb143]? = some (.cells #[.int .i64 0, .int .i64 0, .int .i64 0, .string (⟨#[]⟩ : ByteArray)] 27 (0, 0))) := ⟨by (with_reducible repeat (first | refine blk_drewN ?_ _ | refine blk_drew ?_ | refine blk_alloc ?_ _)); refine blk_far ?_ NB143_144.out _; (with_reducible repeat (first | refine blk_drewN ?_ _ | refine blk_drew ?_ | refine blk_alloc ?_ _)); refine blk_far ?_ NB143_144.out _; (with_reducible repeat (first | refine blk_drewN ?_ _ | refine blk_drew ?_ | refine blk_alloc ?_ _)); refine blk_far ?_ NB143_144.out _; (with_reducible repeat (first | refine blk_drewN ?_ _ | refine blk_drew ?_ | refine blk_alloc ?_ _)); refine blk_far ?_ NB143_144.out _; (with_reducible repeat (first | refine blk_drewN ?_ _ | refine blk_drew ?_ | refine blk_alloc ?_ _)); exact BK143.out⟩
                   have n1_ : Aside0 (((((w34.setCell ⟨gb144, 0, none⟩ (.int .i64 (wrap64 (bt (a0.extract ((ji14) : Int).toNat ((wrap64 ((ji14) + (wrap64 (bt a0 a1)))) : Int).toNat) 0)))).setCell ⟨gb144, 1, none⟩ (.int .i64 (wrap64 (bt (a0.extract ((ji14) : Int).toNat ((wrap64 ((ji14) + (wrap64 (bt a0 a1)))) : Int).toNat) 1)))).setCell ⟨gb144, 2, none⟩ (.int .i64 (wrap64 (bt (a0.extract ((ji14) : Int).toNat ((wrap64 ((ji14) + (wrap64 (bt a0 a1)))) : Int).toNat) 2)))).setCell ⟨gb144, 3, none⟩ (.string ((a0.extract ((ji14) : Int).toNat ((wrap64 ((ji14) + (wrap64 (bt a0 a1)))) : Int).toNat).extract 3 ((wrap64 ((wrap64 (bt a0 a1)) - 2)) : Int).toNat))).heap[gb144]? = some (.cells #[.int .i64 (wrap64 (bt (a0.extract ((ji14) : Int).toNat ((wrap64 ((ji14) + (wrap64 (bt a0 a1)))) : Int).toNat) 0)), .int .i64 (wrap64 (bt (a0.extract ((ji14) : Int).toNat ((wrap64 ((ji14) + (wrap64 (bt a0 a1)))) : Int).toNat) 1)), .int .i64 (wrap64 (bt (a0.extract ((ji14) : Int).toNat ((wrap64 ((ji14) + (wrap64 (bt a0 a1)))) : Int).toNat) 2)), .string ((a0.extract ((ji14) : Int).toNat ((wrap64 ((ji14) + (wrap64 (bt a0 a1)))) : Int).toNat).extract 3 ((wrap64 ((wrap64 (bt a0 a1)) - 2)) : Int).toNat)] 27 (0, 0))) := ⟨by (with_reducible repeat (first | refine blk_drewN ?_ _ | refine blk_drew ?_ | refine blk_alloc ?_ _)); refine blk_put (cs := #[.int .i64 (wrap64 (bt (a0.extract ((ji14) : Int).toNat ((wrap64 ((ji14) + (wrap64 (bt a0 a1)))) : Int).toNat) 0)), .int .i64 (wrap64 (bt (a0.extract ((ji14) : Int).toNat ((wrap64 ((ji14) + (wrap64 (bt a0 a1)))) : Int).toNat) 1)), .int .i64 (wrap64 (bt (a0.extract ((ji14) : Int).toNat ((wrap64 ((ji14) + (wrap64 (bt a0 a1)))) : Int).toNat) 2)), .string (⟨#[]⟩ : ByteArray)]) ?_ 3 _ rfl; (with_reducible repeat (first | refine blk_drewN ?_ _ | refine blk_drew ?_ | refine blk_alloc ?_ _)); refine blk_put (cs := #[.int .i64 (wrap64 (bt (a0.extract ((ji14) : Int).toNat ((wrap64 ((ji14) + (wrap64 (bt a0 a1)))) : Int).toNat) 0)), .int .i64 (wrap64 (bt (a0.extract ((ji14) : Int).toNat ((wrap64 ((ji14) + (wrap64 (bt a0 a1)))) : Int).toNat) 1)), .int .i64 0, .string (⟨#[]⟩ : ByteArray)]) ?_ 2 _ rfl; (with_reducible repeat (first | refine blk_drewN ?_ _ | refine blk_drew ?_ | refine blk_alloc ?_ _)); refine blk_put (cs := #[.int .i64 (wrap64 (bt (a0.extract ((ji14) : Int).toNat ((wrap64 ((ji14) + (wrap64 (bt a0 a1)))) : Int).toNat) 0)), .int .i64 0, .int .i64 0, .string (⟨#[]⟩ : ByteArray)]) ?_ 1 _ rfl; (with_reducible repeat (first | refine blk_drewN ?_ _ | refine blk_drew ?_ | refine blk_alloc ?_ _)); refine blk_put (cs := #[.int .i64 0, .int .i64 0, .int .i64 0, .string (⟨#[]⟩ : ByteArray)]) ?_ 0 _ rfl; (with_reducible repeat (first | refine blk_drewN ?_ _ | refine blk_drew ?_ | refine blk_alloc ?_ _)); exact BK144.out⟩
                   have n2_ : Aside0 (Below w.heap.size w ((((w34.setCell ⟨gb144, 0, none⟩ (.int .i64 (wrap64 (bt (a0.extract ((ji14) : Int).toNat ((wrap64 ((ji14) + (wrap64 (bt a0 a1)))) : Int).toNat) 0)))).setCell ⟨gb144, 1, none⟩ (.int .i64 (wrap64 (bt (a0.extract ((ji14) : Int).toNat ((wrap64 ((ji14) + (wrap64 (bt a0 a1)))) : Int).toNat) 1)))).setCell ⟨gb144, 2, none⟩ (.int .i64 (wrap64 (bt (a0.extract ((ji14) : Int).toNat ((wrap64 ((ji14) + (wrap64 (bt a0 a1)))) : Int).toNat) 2)))).setCell ⟨gb144, 3, none⟩ (.string ((a0.extract ((ji14) : Int).toNat ((wrap64 ((ji14) + (wrap64 (bt a0 a1)))) : Int).toNat).extract 3 ((wrap64 ((wrap64 (bt a0 a1)) - 2)) : Int).toNat)))) := ⟨by repeat (first | (with_reducible first | exact HB.out | apply below_alloc | apply pw_below_drewN | apply below_drew1 | refine below_set ?_ GE143.out | refine below_set ?_ GE144.out) | exact HB.out)⟩
                   (try clear BK143)
                   (try clear BK144)
                   (try clear HB)
                   generalize ((((w34.setCell ⟨gb144, 0, none⟩ (.int .i64 (wrap64 (bt (a0.extract ((ji14) : Int).toNat ((wrap64 ((ji14) + (wrap64 (bt a0 a1)))) : Int).toNat) 0)))).setCell ⟨gb144, 1, none⟩ (.int .i64 (wrap64 (bt (a0.extract ((ji14) : Int).toNat ((wrap64 ((ji14) + (wrap64 (bt a0 a1)))) : Int).toNat) 1)))).setCell ⟨gb144, 2, none⟩ (.int .i64 (wrap64 (bt (a0.extract ((ji14) : Int).toNat ((wrap64 ((ji14) + (wrap64 (bt a0 a1)))) : Int).toNat) 2)))).setCell ⟨gb144, 3, none⟩ (.string ((a0.extract ((ji14) : Int).toNat ((wrap64 ((ji14) + (wrap64 (bt a0 a1)))) : Int).toNat).extract 3 ((wrap64 ((wrap64 (bt a0 a1)) - 2)) : Int).toNat))) = w39 at n0_ n1_ n2_ ⊢
                   have BK143 := n0_
                   have BK144 := n1_
                   have HB := n2_
                   clear n0_ n1_ n2_
                   have n0_ := Aside0.mk (blk_drew BK143.out)
                   have n1_ := Aside0.mk (blk_drew BK144.out)
                   have n2_ := Aside0.mk (below_drew1 HB.out)
                   clear BK143
                   clear BK144
                   clear HB
                   have BK143 := n0_
                   have BK144 := n1_
                   have HB := n2_
                   clear n0_ n1_ n2_
                   refine start_ (n := 15) (S := fun w' => w'.cell? ⟨gb144, 0, none⟩ = some (.int .i64 (wrap64 (bt (a0.extract ((ji14) : Int).toNat ((wrap64 ((ji14) + (wrap64 (bt a0 a1)))) : Int).toNat) 0))) ∧ w'.cell? ⟨gb144, 1, none⟩ = some (.int .i64 (wrap64 (bt (a0.extract ((ji14) : Int).toNat ((wrap64 ((ji14) + (wrap64 (bt a0 a1)))) : Int).toNat) 1))) ∧ w'.cell? ⟨gb144, 2, none⟩ = some (.int .i64 (wrap64 (bt (a0.extract ((ji14) : Int).toNat ((wrap64 ((ji14) + (wrap64 (bt a0 a1)))) : Int).toNat) 2))) ∧ w'.cell? ⟨gb144, 3, none⟩ = some (.string ((a0.extract ((ji14) : Int).toNat ((wrap64 ((ji14) + (wrap64 (bt a0 a1)))) : Int).toNat).extract 3 ((wrap64 ((wrap64 (bt a0 a1)) - 2)) : Int).toNat))) (ds := []) #[O,O,O,O,O,O,O,O,O,O,O,O,O,O,O] (by kernel_rfl) rfl rfl ⟨(blk_cell BK144.out 0).trans rfl, (blk_cell BK144.out 1).trans rfl, (blk_cell BK144.out 2).trans rfl, (blk_cell BK144.out 3).trans rfl⟩ (fun hHeld => ?_); refine with_tabW spec_l3Read.tab8 spec_l3Read.bits8 (fun HT_ HW_ => ?_)
                   generalize w39.drew = w40 at BK143 BK144 HB hHeld ⊢
                   refine take_ (i := 0) (N := some 52) (v := ?_) (a' := ?_) #[Y,O,O,O,O,O,O,O,O,O,O,O,O,O,O] rfl rfl (take_ofW HT_.out HW_.out (by kernel_rfl)) (fun _ _ _ h => h) (Or.inl ⟨by rfl, ?_⟩) hHeld ?_ ?_
                   rotate_left
                   ·rintro w' ⟨s0, s1, s2, s3⟩
                    go_simp
                    with_reducible rfl
                   rotate_left
                   ·simp only [Act.put, List.setIfInBounds_toArray, List.set_cons_zero, List.set_cons_succ, i64_w, i32_w]
                    rfl
                   refine one_ (i := 1) (N := some 53) #[Y,Y,O,O,O,O,O,O,O,O,O,O,O,O,O] rfl rfl (one_of HT_.out (by kernel_rfl)) (by decide) (fun K hK => ?_)
                   refine goes_ Try.func46 (by kernel_rfl) rfl #[.agg #[.int .i64 (wrap64 (bt (a0.extract ((ji14) : Int).toNat ((wrap64 ((ji14) + (wrap64 (bt a0 a1)))) : Int).toNat) 0)), .int .i64 (wrap64 (bt (a0.extract ((ji14) : Int).toNat ((wrap64 ((ji14) + (wrap64 (bt a0 a1)))) : Int).toNat) 1)), .int .i64 (wrap64 (bt (a0.extract ((ji14) : Int).toNat ((wrap64 ((ji14) + (wrap64 (bt a0 a1)))) : Int).toNat) 2)), .string ((a0.extract ((ji14) : Int).toNat ((wrap64 ((ji14) + (wrap64 (bt a0 a1)))) : Int).toNat).extract 3 ((wrap64 ((wrap64 (bt a0 a1)) - 2)) : Int).toNat)]] (by rfl) rfl rfl (by (try simp only [List.map_toArray, List.map_cons, List.map_nil]); first | done | (simp only [hji14]; rfl) | rfl | (simp only [List.length_drop, List.length_take]; rfl)) ?_
                   with_reducible refine (spec_GoodRecord.calls (wrap64 (bt (a0.extract ((ji14) : Int).toNat ((wrap64 ((ji14) + (wrap64 (bt a0 a1)))) : Int).toNat) 0)) (wrap64 (bt (a0.extract ((ji14) : Int).toNat ((wrap64 ((ji14) + (wrap64 (bt a0 a1)))) : Int).toNat) 1)) (wrap64 (bt (a0.extract ((ji14) : Int).toNat ((wrap64 ((ji14) + (wrap64 (bt a0 a1)))) : Int).toNat) 2)) ((a0.extract ((ji14) : Int).toNat ((wrap64 ((ji14) + (wrap64 (bt a0 a1)))) : Int).toNat).extract 3 ((wrap64 ((wrap64 (bt a0 a1)) - 2)) : Int).toNat) true _ A26.out).mono ?_
                   rintro e w41 ⟨rfl, hb⟩
                   refine ⟨_, rfl, ?_⟩
                   have n0_ := Aside0.mk (blk_below (g := gb143) (o := .cells #[.int .i64 0, .int .i64 0, .int .i64 0, .string (⟨#[]⟩ : ByteArray)] 27 (0, 0)) (by (with_reducible repeat (first | refine blk_drewN ?_ _ | refine blk_drew ?_ | refine blk_alloc ?_ _)); exact BK143.out) hb)
                   have n1_ := Aside0.mk (blk_below (g := gb144) (o := .cells #[.int .i64 (wrap64 (bt (a0.extract ((ji14) : Int).toNat ((wrap64 ((ji14) + (wrap64 (bt a0 a1)))) : Int).toNat) 0)), .int .i64 (wrap64 (bt (a0.extract ((ji14) : Int).toNat ((wrap64 ((ji14) + (wrap64 (bt a0 a1)))) : Int).toNat) 1)), .int .i64 (wrap64 (bt (a0.extract ((ji14) : Int).toNat ((wrap64 ((ji14) + (wrap64 (bt a0 a1)))) : Int).toNat) 2)), .string ((a0.extract ((ji14) : Int).toNat ((wrap64 ((ji14) + (wrap64 (bt a0 a1)))) : Int).toNat).extract 3 ((wrap64 ((wrap64 (bt a0 a1)) - 2)) : Int).toNat)] 27 (0, 0)) (by (with_reducible repeat (first | refine blk_drewN ?_ _ | refine blk_drew ?_ | refine blk_alloc ?_ _)); exact BK144.out) hb)
                   have n2_ := Aside0.mk (below_step (by repeat (first | (with_reducible first | exact HB.out | apply below_alloc | apply pw_below_drewN | apply below_drew1 | refine below_set ?_ GE143.out | refine below_set ?_ GE144.out) | exact HB.out)) hb)
                   clear BK143
                   clear BK144
                   clear HB
                   have BK143 := n0_
                   have BK144 := n1_
                   have HB := n2_
                   clear n0_ n1_ n2_
                   (try clear hb)
                   (try clear hb2)
                   (try clear hk)
                   (try clear hi)
                   refine hK.out _ _ ⟨(blk_cell BK144.out 0).trans rfl, (blk_cell BK144.out 1).trans rfl, (blk_cell BK144.out 2).trans rfl, (blk_cell BK144.out 3).trans rfl⟩ (fun hHeld => ?_)
                   clear hK K
                   refine norm_ (a' := ?_) ?_ ?_
                   rotate_left
                   ·show Act.put _ (some 53) _ = _
                    simp only [Act.put, List.setIfInBounds_toArray, List.set_cons_zero, List.set_cons_succ, i64_w, i32_w]
                    rfl
                   refine pure_ (i := 2) (N := some 54) (v := ?_) (a' := ?_) #[Y,Y,Y,O,O,O,O,O,O,O,O,O,O,O,O] rfl rfl (any_of HT_.out (by kernel_rfl)) (fun _ _ _ h => h) (Or.inl ⟨by rfl, ?_⟩) ?_ ?_
                   rotate_left
                   ·intro w'
                    go_simp
                    with_reducible rfl
                   rotate_left
                   ·simp only [Act.put, List.setIfInBounds_toArray, List.set_cons_zero, List.set_cons_succ, i64_w, i32_w]
                    rfl
                   refine pure_ (i := 3) (N := some 55) (v := ?_) (a' := ?_) #[Y,Y,Y,Y,O,O,O,O,O,O,O,O,O,O,O] rfl rfl (any_of HT_.out (by kernel_rfl)) (fun _ _ _ h => h) (Or.inl ⟨by rfl, ?_⟩) ?_ ?_
                   rotate_left
                   ·intro w'
                    go_simp
                    with_reducible rfl
                   rotate_left
                   ·simp only [Act.put, List.setIfInBounds_toArray, List.set_cons_zero, List.set_cons_succ, i64_w, i32_w]
                    rfl
                   refine pure_ (i := 6) (N := some 58) (v := ?_) (a' := ?_) #[Y,Y,Y,Y,O,O,Y,O,O,O,O,O,O,O,O] rfl rfl (any_of HT_.out (by kernel_rfl)) (fun _ _ _ h => h) (Or.inl ⟨by rfl, ?_⟩) ?_ ?_
                   rotate_left
                   ·intro w'
                    go_simp
                    with_reducible rfl
                   rotate_left
                   ·simp only [Act.put, List.setIfInBounds_toArray, List.set_cons_zero, List.set_cons_succ, i64_w, i32_w]
                    rfl
                   refine pure_ (i := 7) (N := some 59) (v := ?_) (a' := ?_) #[Y,Y,Y,Y,O,O,Y,Y,O,O,O,O,O,O,O] rfl rfl (any_of HT_.out (by kernel_rfl)) (fun _ _ _ h => h) (Or.inl ⟨by rfl, ?_⟩) ?_ ?_
                   rotate_left
                   ·intro w'
                    go_simp
                    with_reducible rfl
                   rotate_left
                   ·simp only [Act.put, List.setIfInBounds_toArray, List.set_cons_zero, List.set_cons_succ, i64_w, i32_w]
                    rfl
                   refine pure_ (i := 8) (N := some 60) (v := ?_) (a' := ?_) #[Y,Y,Y,Y,O,O,Y,Y,Y,O,O,O,O,O,O] rfl rfl (any_of HT_.out (by kernel_rfl)) (fun _ _ _ h => h) (Or.inl ⟨by rfl, ?_⟩) ?_ ?_
                   rotate_left
                   ·intro w'
                    go_simp
                    with_reducible rfl
                   rotate_left
                   ·simp only [Act.put, List.setIfInBounds_toArray, List.set_cons_zero, List.set_cons_succ, i64_w, i32_w]
                    rfl
                   refine pure_ (i := 9) (N := some 61) (v := ?_) (a' := ?_) #[Y,Y,Y,Y,O,O,Y,Y,Y,Y,O,O,O,O,O] rfl rfl (any_of HT_.out (by kernel_rfl)) (fun _ _ _ h => h) (Or.inl ⟨by rfl, ?_⟩) ?_ ?_
                   rotate_left
                   ·intro w'
                    go_simp
                    with_reducible rfl
                   rotate_left
                   ·simp only [Act.put, List.setIfInBounds_toArray, List.set_cons_zero, List.set_cons_succ, i64_w, i32_w]
                    rfl
                   refine pure_ (i := 10) (N := some 62) (v := ?_) (a' := ?_) #[Y,Y,Y,Y,O,O,Y,Y,Y,Y,Y,O,O,O,O] rfl rfl (any_of HT_.out (by kernel_rfl)) (fun _ _ _ h => h) (Or.inl ⟨by rfl, ?_⟩) ?_ ?_
                   rotate_left
                   ·intro w'
                    go_simp
                    with_reducible rfl
                   rotate_left
                   ·simp only [Act.put, List.setIfInBounds_toArray, List.set_cons_zero, List.set_cons_succ, i64_w, i32_w]
                    rfl
                   refine pure_ (i := 11) (N := some 63) (v := ?_) (a' := ?_) #[Y,Y,Y,Y,O,O,Y,Y,Y,Y,Y,Y,O,O,O] rfl rfl (any_of HT_.out (by kernel_rfl)) (fun _ _ _ h => h) (Or.inl ⟨by rfl, ?_⟩) ?_ ?_
                   rotate_left
                   ·intro w'
                    go_simp
                    with_reducible rfl
                   rotate_left
                   ·simp only [Act.put, List.setIfInBounds_toArray, List.set_cons_zero, List.set_cons_succ, i64_w, i32_w]
                    rfl
                   refine pure_ (i := 12) (N := some 64) (v := ?_) (a' := ?_) #[Y,Y,Y,Y,O,O,Y,Y,Y,Y,Y,Y,Y,O,O] rfl rfl (any_of HT_.out (by kernel_rfl)) (fun _ _ _ h => h) (Or.inl ⟨by rfl, ?_⟩) ?_ ?_
                   rotate_left
                   ·intro w'
                    go_simp
                    with_reducible rfl
                   rotate_left
                   ·simp only [Act.put, List.setIfInBounds_toArray, List.set_cons_zero, List.set_cons_succ, i64_w, i32_w]
                    rfl
                   refine take_ (i := 4) (N := some 56) (v := ?_) (a' := ?_) #[Y,Y,Y,Y,Y,O,Y,Y,Y,Y,Y,Y,Y,O,O] rfl rfl (take_ofW HT_.out HW_.out (by kernel_rfl)) (fun _ _ _ h => h) (Or.inl ⟨by rfl, ?_⟩) hHeld ?_ ?_
                   rotate_left
                   ·rintro w' ⟨s0, s1, s2, s3⟩
                    go_simp
                    with_reducible rfl
                   rotate_left
                   ·simp only [Act.put, List.setIfInBounds_toArray, List.set_cons_zero, List.set_cons_succ, i64_w, i32_w]
                    rfl
                   refine one_ (i := 5) (N := some 57) #[Y,Y,Y,Y,Y,Y,Y,Y,Y,Y,Y,Y,Y,O,O] rfl rfl (one_of HT_.out (by kernel_rfl)) (by decide) (fun K hK => ?_)
                   refine goes_ Try.func47 (by kernel_rfl) rfl #[.agg #[.int .i64 (wrap64 (bt (a0.extract ((ji14) : Int).toNat ((wrap64 ((ji14) + (wrap64 (bt a0 a1)))) : Int).toNat) 0)), .int .i64 (wrap64 (bt (a0.extract ((ji14) : Int).toNat ((wrap64 ((ji14) + (wrap64 (bt a0 a1)))) : Int).toNat) 1)), .int .i64 (wrap64 (bt (a0.extract ((ji14) : Int).toNat ((wrap64 ((ji14) + (wrap64 (bt a0 a1)))) : Int).toNat) 2)), .string ((a0.extract ((ji14) : Int).toNat ((wrap64 ((ji14) + (wrap64 (bt a0 a1)))) : Int).toNat).extract 3 ((wrap64 ((wrap64 (bt a0 a1)) - 2)) : Int).toNat)]] (by rfl) rfl rfl (by (try simp only [List.map_toArray, List.map_cons, List.map_nil]); first | done | (simp only [hji14]; rfl) | rfl | (simp only [List.length_drop, List.length_take]; rfl)) ?_
                   with_reducible refine (spec_l3Text.calls kj8 (wrap64 (bt (a0.extract ((ji14) : Int).toNat ((wrap64 ((ji14) + (wrap64 (bt a0 a1)))) : Int).toNat) 0)) (wrap64 (bt (a0.extract ((ji14) : Int).toNat ((wrap64 ((ji14) + (wrap64 (bt a0 a1)))) : Int).toNat) 1)) (wrap64 (bt (a0.extract ((ji14) : Int).toNat ((wrap64 ((ji14) + (wrap64 (bt a0 a1)))) : Int).toNat) 2)) ((a0.extract ((ji14) : Int).toNat ((wrap64 ((ji14) + (wrap64 (bt a0 a1)))) : Int).toNat).extract 3 ((wrap64 ((wrap64 (bt a0 a1)) - 2)) : Int).toNat) t146 _ A28.out).mono ?_
                   rintro e w42 ⟨rfl, hb⟩
                   refine ⟨_, rfl, ?_⟩
                   have n0_ := Aside0.mk (blk_below (g := gb143) (o := .cells #[.int .i64 0, .int .i64 0, .int .i64 0, .string (⟨#[]⟩ : ByteArray)] 27 (0, 0)) (by (with_reducible repeat (first | refine blk_drewN ?_ _ | refine blk_drew ?_ | refine blk_alloc ?_ _)); exact BK143.out) hb)
                   have n1_ := Aside0.mk (blk_below (g := gb144) (o := .cells #[.int .i64 (wrap64 (bt (a0.extract ((ji14) : Int).toNat ((wrap64 ((ji14) + (wrap64 (bt a0 a1)))) : Int).toNat) 0)), .int .i64 (wrap64 (bt (a0.extract ((ji14) : Int).toNat ((wrap64 ((ji14) + (wrap64 (bt a0 a1)))) : Int).toNat) 1)), .int .i64 (wrap64 (bt (a0.extract ((ji14) : Int).toNat ((wrap64 ((ji14) + (wrap64 (bt a0 a1)))) : Int).toNat) 2)), .string ((a0.extract ((ji14) : Int).toNat ((wrap64 ((ji14) + (wrap64 (bt a0 a1)))) : Int).toNat).extract 3 ((wrap64 ((wrap64 (bt a0 a1)) - 2)) : Int).toNat)] 27 (0, 0)) (by (with_reducible repeat (first | refine blk_drewN ?_ _ | refine blk_drew ?_ | refine blk_alloc ?_ _)); exact BK144.out) hb)
                   have n2_ := Aside0.mk (below_step (by repeat (first | (with_reducible first | exact HB.out | apply below_alloc | apply pw_below_drewN | apply below_drew1 | refine below_set ?_ GE143.out | refine below_set ?_ GE144.out) | exact HB.out)) hb)
                   clear BK143
                   clear BK144
                   clear HB
                   have BK143 := n0_
                   have BK144 := n1_
                   have HB := n2_
                   clear n0_ n1_ n2_
                   (try clear hb)
                   (try clear hb2)
                   (try clear hk)
                   (try clear hi)
                   refine hK.out _ _ ⟨(blk_cell BK144.out 0).trans rfl, (blk_cell BK144.out 1).trans rfl, (blk_cell BK144.out 2).trans rfl, (blk_cell BK144.out 3).trans rfl⟩ (fun hHeld => ?_)
                   clear hK K
                   refine norm_ (a' := ?_) ?_ ?_
                   rotate_left
                   ·show Act.put _ (some 57) _ = _
                    simp only [Act.put, List.setIfInBounds_toArray, List.set_cons_zero, List.set_cons_succ, i64_w, i32_w]
                    rfl
                   refine pure_ (i := 13) (N := some 65) (v := ?_) (a' := ?_) #[Y,Y,Y,Y,Y,Y,Y,Y,Y,Y,Y,Y,Y,Y,O] rfl rfl (any_of HT_.out (by kernel_rfl)) (fun _ _ _ h => h) (Or.inl ⟨by rfl, ?_⟩) ?_ ?_
                   rotate_left
                   ·intro w'
                    go_simp
                    with_reducible rfl
                   rotate_left
                   ·simp only [Act.put, List.setIfInBounds_toArray, List.set_cons_zero, List.set_cons_succ, i64_w, i32_w]
                    rfl
                   refine pure_ (i := 14) (N := some 66) (v := ?_) (a' := ?_) #[Y,Y,Y,Y,Y,Y,Y,Y,Y,Y,Y,Y,Y,Y,Y] rfl rfl (any_of HT_.out (by kernel_rfl)) (fun _ _ _ h => h) (Or.inl ⟨by rfl, ?_⟩) ?_ ?_
                   rotate_left
                   ·intro w'
                    go_simp
                    with_reducible rfl
                   rotate_left
                   ·simp only [Act.put, List.setIfInBounds_toArray, List.set_cons_zero, List.set_cons_succ, i64_w, i32_w]
                    rfl
                   refine done_ (done_of HT_.out (by kernel_rfl)) ?_
                   have hnb43 := NB144_143.out
                   have hnc43 := NB143_144.out
                   have hcz44_0 : w42.cell? ⟨gb144, 0, none⟩ = some (.int .i64 (wrap64 (bt (a0.extract ((ji14) : Int).toNat ((wrap64 ((ji14) + (wrap64 (bt a0 a1)))) : Int).toNat) 0))) := (blk_cell BK144.out 0).trans rfl
                   have hcz44_1 : w42.cell? ⟨gb144, 1, none⟩ = some (.int .i64 (wrap64 (bt (a0.extract ((ji14) : Int).toNat ((wrap64 ((ji14) + (wrap64 (bt a0 a1)))) : Int).toNat) 1))) := (blk_cell BK144.out 1).trans rfl
                   have hcz44_2 : w42.cell? ⟨gb144, 2, none⟩ = some (.int .i64 (wrap64 (bt (a0.extract ((ji14) : Int).toNat ((wrap64 ((ji14) + (wrap64 (bt a0 a1)))) : Int).toNat) 2))) := (blk_cell BK144.out 2).trans rfl
                   have hcz44_3 : w42.cell? ⟨gb144, 3, none⟩ = some (.string ((a0.extract ((ji14) : Int).toNat ((wrap64 ((ji14) + (wrap64 (bt a0 a1)))) : Int).toNat).extract 3 ((wrap64 ((wrap64 (bt a0 a1)) - 2)) : Int).toNat)) := (blk_cell BK144.out 3).trans rfl
                   have hfz44_0 := blk_frozen BK144.out 0
                   have hfz44_1 := blk_frozen BK144.out 1
                   have hfz44_2 := blk_frozen BK144.out 2
                   have hfz44_3 := blk_frozen BK144.out 3
                   have hcz45_0 : w42.cell? ⟨gb143, 0, none⟩ = some (.int .i64 0) := (blk_cell BK143.out 0).trans rfl
                   have hcz45_1 : w42.cell? ⟨gb143, 1, none⟩ = some (.int .i64 0) := (blk_cell BK143.out 1).trans rfl
                   have hcz45_2 : w42.cell? ⟨gb143, 2, none⟩ = some (.int .i64 0) := (blk_cell BK143.out 2).trans rfl
                   have hcz45_3 : w42.cell? ⟨gb143, 3, none⟩ = some (.string (⟨#[]⟩ : ByteArray)) := (blk_cell BK143.out 3).trans rfl
                   have hfz45_0 := blk_frozen BK143.out 0
                   have hfz45_1 := blk_frozen BK143.out 1
                   have hfz45_2 := blk_frozen BK143.out 2
                   have hfz45_3 := blk_frozen BK143.out 3
                   try go_wp2
                   refine bodyPost_ret (results_ct rfl _ _ gb143 27 #[.int .i64 (wrap64 (bt (a0.extract ((ji14) : Int).toNat ((wrap64 ((ji14) + (wrap64 (bt a0 a1)))) : Int).toNat) 0)), .int .i64 (wrap64 (bt (a0.extract ((ji14) : Int).toNat ((wrap64 ((ji14) + (wrap64 (bt a0 a1)))) : Int).toNat) 1)), .int .i64 (wrap64 (bt (a0.extract ((ji14) : Int).toNat ((wrap64 ((ji14) + (wrap64 (bt a0 a1)))) : Int).toNat) 2)), .string ((a0.extract ((ji14) : Int).toNat ((wrap64 ((ji14) + (wrap64 (bt a0 a1)))) : Int).toNat).extract 3 ((wrap64 ((wrap64 (bt a0 a1)) - 2)) : Int).toNat)] (0, 0) _ rfl (by (with_reducible repeat (first | refine blk_drewN ?_ _ | refine blk_drew ?_ | refine blk_alloc ?_ _)); refine blk_put (cs := #[.int .i64 (wrap64 (bt (a0.extract ((ji14) : Int).toNat ((wrap64 ((ji14) + (wrap64 (bt a0 a1)))) : Int).toNat) 0)), .int .i64 (wrap64 (bt (a0.extract ((ji14) : Int).toNat ((wrap64 ((ji14) + (wrap64 (bt a0 a1)))) : Int).toNat) 1)), .int .i64 (wrap64 (bt (a0.extract ((ji14) : Int).toNat ((wrap64 ((ji14) + (wrap64 (bt a0 a1)))) : Int).toNat) 2)), .string (⟨#[]⟩ : ByteArray)]) ?_ 3 _ rfl; (with_reducible repeat (first | refine blk_drewN ?_ _ | refine blk_drew ?_ | refine blk_alloc ?_ _)); refine blk_put (cs := #[.int .i64 (wrap64 (bt (a0.extract ((ji14) : Int).toNat ((wrap64 ((ji14) + (wrap64 (bt a0 a1)))) : Int).toNat) 0)), .int .i64 (wrap64 (bt (a0.extract ((ji14) : Int).toNat ((wrap64 ((ji14) + (wrap64 (bt a0 a1)))) : Int).toNat) 1)), .int .i64 0, .string (⟨#[]⟩ : ByteArray)]) ?_ 2 _ rfl; (with_reducible repeat (first | refine blk_drewN ?_ _ | refine blk_drew ?_ | refine blk_alloc ?_ _)); refine blk_put (cs := #[.int .i64 (wrap64 (bt (a0.extract ((ji14) : Int).toNat ((wrap64 ((ji14) + (wrap64 (bt a0 a1)))) : Int).toNat) 0)), .int .i64 0, .int .i64 0, .string (⟨#[]⟩ : ByteArray)]) ?_ 1 _ rfl; (with_reducible repeat (first | refine blk_drewN ?_ _ | refine blk_drew ?_ | refine blk_alloc ?_ _)); refine blk_put (cs := #[.int .i64 0, .int .i64 0, .int .i64 0, .string (⟨#[]⟩ : ByteArray)]) ?_ 0 _ rfl; (with_reducible repeat (first | refine blk_drewN ?_ _ | refine blk_drew ?_ | refine blk_alloc ?_ _)); exact BK143.out) Try.underlying27 rfl (by kernel_rfl)) rfl ?_
                   exact ⟨by first | rfl | (simp [errW_none, errW_some] <;> rfl) | (simp only [← hji14]; first | rfl | (simp [errW_none, errW_some] <;> rfl)) | (simp [*, errW_none, errW_some] <;> rfl), by repeat (first | (with_reducible first | exact HB.out | apply below_alloc | apply pw_below_drewN | apply below_drew1 | refine below_set ?_ GE143.out | refine below_set ?_ GE144.out) | exact HB.out)⟩
                  ·rw [if_neg c32] at H
                   have c32b0 : (t146.toList == (a0.extract (a1 : Int).toNat ((wrap64 ((ji14) + (wrap64 (bt a0 a1)))) : Int).toNat).toList) = false := beq_eq_false_iff_ne.mpr c32
                   have c32b1 : (t146.toList != (a0.extract (a1 : Int).toNat ((wrap64 ((ji14) + (wrap64 (bt a0 a1)))) : Int).toNat).toList) = true := bne_iff_ne.mpr c32
                   simp only [Option.some.injEq, Prod.mk.injEq] at H
                   obtain ⟨rfl, rfl, rfl, rfl, rfl⟩ := H
                   try go_wp2
                   have n0_ := Aside0.mk (blk_drew BK143.out)
                   have n1_ := Aside0.mk (below_drew1 HB.out)
                   clear BK143
                   clear HB
                   have BK143 := n0_
                   have HB := n1_
                   clear n0_ n1_
                   have p19 : 0 ≤ (0 : Int) := (by omega)
                   have q19 : 0 < (a0.extract ((ji14) : Int).toNat ((wrap64 ((ji14) + (wrap64 (bt a0 a1)))) : Int).toNat).size := (by have : (0 : Int) < ((a0.extract ((ji14) : Int).toNat ((wrap64 ((ji14) + (wrap64 (bt a0 a1)))) : Int).toNat).size : Int) := of_decide_eq_true (by first | (with_reducible assumption) | assumption); omega)
                   have hx19 : ∀ h : 0 < (a0.extract ((ji14) : Int).toNat ((wrap64 ((ji14) + (wrap64 (bt a0 a1)))) : Int).toNat).size, (((a0.extract ((ji14) : Int).toNat ((wrap64 ((ji14) + (wrap64 (bt a0 a1)))) : Int).toNat)[0]'h).toNat : Int) = bt (a0.extract ((ji14) : Int).toNat ((wrap64 ((ji14) + (wrap64 (bt a0 a1)))) : Int).toNat) 0 := bt_at (a0.extract ((ji14) : Int).toNat ((wrap64 ((ji14) + (wrap64 (bt a0 a1)))) : Int).toNat) 0
                   clear p19
                   have qi19 : (0 < ((a0.extract ((ji14) : Int).toNat ((wrap64 ((ji14) + (wrap64 (bt a0 a1)))) : Int).toNat).size : Int)) = True := eq_true (of_decide_eq_true (by first | (with_reducible assumption) | assumption))
                   replace q19 := eq_true q19
                   have p21 : 0 ≤ (1 : Int) := (by omega)
                   have q21 : 1 < (a0.extract ((ji14) : Int).toNat ((wrap64 ((ji14) + (wrap64 (bt a0 a1)))) : Int).toNat).size := (by have : (1 : Int) < ((a0.extract ((ji14) : Int).toNat ((wrap64 ((ji14) + (wrap64 (bt a0 a1)))) : Int).toNat).size : Int) := of_decide_eq_true (by first | (with_reducible assumption) | assumption); omega)
                   have hx21 : ∀ h : 1 < (a0.extract ((ji14) : Int).toNat ((wrap64 ((ji14) + (wrap64 (bt a0 a1)))) : Int).toNat).size, (((a0.extract ((ji14) : Int).toNat ((wrap64 ((ji14) + (wrap64 (bt a0 a1)))) : Int).toNat)[1]'h).toNat : Int) = bt (a0.extract ((ji14) : Int).toNat ((wrap64 ((ji14) + (wrap64 (bt a0 a1)))) : Int).toNat) 1 := bt_at (a0.extract ((ji14) : Int).toNat ((wrap64 ((ji14) + (wrap64 (bt a0 a1)))) : Int).toNat) 1
                   clear p21
                   have qi21 : (1 < ((a0.extract ((ji14) : Int).toNat ((wrap64 ((ji14) + (wrap64 (bt a0 a1)))) : Int).toNat).size : Int)) = True := eq_true (of_decide_eq_true (by first | (with_reducible assumption) | assumption))
                   replace q21 := eq_true q21
                   have p23 : 0 ≤ (2 : Int) := (by omega)
                   have q23 : 2 < (a0.extract ((ji14) : Int).toNat ((wrap64 ((ji14) + (wrap64 (bt a0 a1)))) : Int).toNat).size := (by have : (2 : Int) < ((a0.extract ((ji14) : Int).toNat ((wrap64 ((ji14) + (wrap64 (bt a0 a1)))) : Int).toNat).size : Int) := of_decide_eq_true (by first | (with_reducible assumption) | assumption); omega)
                   have hx23 : ∀ h : 2 < (a0.extract ((ji14) : Int).toNat ((wrap64 ((ji14) + (wrap64 (bt a0 a1)))) : Int).toNat).size, (((a0.extract ((ji14) : Int).toNat ((wrap64 ((ji14) + (wrap64 (bt a0 a1)))) : Int).toNat)[2]'h).toNat : Int) = bt (a0.extract ((ji14) : Int).toNat ((wrap64 ((ji14) + (wrap64 (bt a0 a1)))) : Int).toNat) 2 := bt_at (a0.extract ((ji14) : Int).toNat ((wrap64 ((ji14) + (wrap64 (bt a0 a1)))) : Int).toNat) 2
                   clear p23
                   have qi23 : (2 < ((a0.extract ((ji14) : Int).toNat ((wrap64 ((ji14) + (wrap64 (bt a0 a1)))) : Int).toNat).size : Int)) = True := eq_true (of_decide_eq_true (by first | (with_reducible assumption) | assumption))
                   replace q23 := eq_true q23
                   have hN_ : (a0.extract ((ji14) : Int).toNat ((wrap64 ((ji14) + (wrap64 (bt a0 a1)))) : Int).toNat).size = ((wrap64 ((ji14) + (wrap64 (bt a0 a1)))) : Int).toNat - ((ji14) : Int).toNat := by rw [ByteArray.size_extract, Nat.min_eq_left (Int.toNat_le.2 (by assumption))]
                   try (have zq19 := q19; rw [hN_] at zq19)
                   try (have zqi19 := qi19; rw [hN_] at zqi19)
                   try (have zq21 := q21; rw [hN_] at zq21)
                   try (have zqi21 := qi21; rw [hN_] at zqi21)
                   try (have zq23 := q23; rw [hN_] at zq23)
                   try (have zqi23 := qi23; rw [hN_] at zqi23)
                   try (have zc18b0 := c18b0; rw [hN_] at zc18b0)
                   try (have zc18b1 := c18b1; rw [hN_] at zc18b1)
                   try (have zc20b0 := c20b0; rw [hN_] at zc20b0)
                   try (have zc20b1 := c20b1; rw [hN_] at zc20b1)
                   try (have zc22b0 := c22b0; rw [hN_] at zc22b0)
                   try (have zc22b1 := c22b1; rw [hN_] at zc22b1)
                   try (have zc25b1 := c25b1; rw [hN_] at zc25b1)
                   try (have zc25b0 := c25b0; rw [hN_] at zc25b0)
                   refine start_ (n := 16) (S := fun w' => True) (ds := []) #[O,O,O,O,O,O,O,O,O,O,O,O,O,O,O,O] (by kernel_rfl) rfl rfl trivial (fun hHeld => ?_); refine with_tabW spec_l3Read.tab7 spec_l3Read.bits7 (fun HT_ HW_ => ?_)
                   generalize wc.drew = w46 at BK143 HB hHeld ⊢
                   refine pure_ (i := 0) (N := some 38) (v := ?_) (a' := ?_) #[Y,O,O,O,O,O,O,O,O,O,O,O,O,O,O,O] rfl rfl (any_of HT_.out (by kernel_rfl)) (fun _ _ _ h => h) (Or.inl ⟨by rfl, ?_⟩) ?_ ?_
                   rotate_left
                   ·intro w'
                    go_simp
                    with_reducible rfl
                   rotate_left
                   ·simp only [Act.put, List.setIfInBounds_toArray, List.set_cons_zero, List.set_cons_succ, i64_w, i32_w]
                    rfl
                   refine pure_ (i := 3) (N := some 41) (v := ?_) (a' := ?_) #[Y,O,O,Y,O,O,O,O,O,O,O,O,O,O,O,O] rfl rfl (any_of HT_.out (by kernel_rfl)) (fun _ _ _ h => h) (Or.inl ⟨by rfl, ?_⟩) ?_ ?_
                   rotate_left
                   ·intro w'
                    go_simp
                    with_reducible rfl
                   rotate_left
                   ·simp only [Act.put, List.setIfInBounds_toArray, List.set_cons_zero, List.set_cons_succ, i64_w, i32_w]
                    rfl
                   refine pure_ (i := 6) (N := some 44) (v := ?_) (a' := ?_) #[Y,O,O,Y,O,O,Y,O,O,O,O,O,O,O,O,O] rfl rfl (any_of HT_.out (by kernel_rfl)) (fun _ _ _ h => h) (Or.inl ⟨by rfl, ?_⟩) ?_ ?_
                   rotate_left
                   ·intro w'
                    go_simp
                    with_reducible rfl
                   rotate_left
                   ·simp only [Act.put, List.setIfInBounds_toArray, List.set_cons_zero, List.set_cons_succ, i64_w, i32_w]
                    rfl
                   refine pure_ (i := 9) (N := some 47) (v := ?_) (a' := ?_) #[Y,O,O,Y,O,O,Y,O,O,Y,O,O,O,O,O,O] rfl rfl (any_of HT_.out (by kernel_rfl)) (fun _ _ _ h => h) (Or.inl ⟨by rfl, ?_⟩) ?_ ?_
                   rotate_left
                   ·intro w'
                    go_simp
                    with_reducible rfl
                   rotate_left
                   ·simp only [Act.put, List.setIfInBounds_toArray, List.set_cons_zero, List.set_cons_succ, i64_w, i32_w]
                    rfl
                   refine pure_ (i := 10) (N := some 48) (v := ?_) (a' := ?_) #[Y,O,O,Y,O,O,Y,O,O,Y,Y,O,O,O,O,O] rfl rfl (any_of HT_.out (by kernel_rfl)) (fun _ _ _ h => h) (Or.inl ⟨by rfl, ?_⟩) ?_ ?_
                   rotate_left
                   ·intro w'
                    go_simp
                    with_reducible rfl
                   rotate_left
                   ·simp only [Act.put, List.setIfInBounds_toArray, List.set_cons_zero, List.set_cons_succ, i64_w, i32_w]
                    rfl
                   refine pure_ (i := 11) (N := some 49) (v := ?_) (a' := ?_) #[Y,O,O,Y,O,O,Y,O,O,Y,Y,Y,O,O,O,O] rfl rfl (any_of HT_.out (by kernel_rfl)) (fun _ _ _ h => h) (Or.inl ⟨by rfl, ?_⟩) ?_ ?_
                   rotate_left
                   ·intro w'
                    go_simp
                    with_reducible rfl
                   rotate_left
                   ·simp only [Act.put, List.setIfInBounds_toArray, List.set_cons_zero, List.set_cons_succ, i64_w, i32_w]
                    rfl
                   refine pure_ (i := 12) (N := some 50) (v := ?_) (a' := ?_) #[Y,O,O,Y,O,O,Y,O,O,Y,Y,Y,Y,O,O,O] rfl rfl (any_of HT_.out (by kernel_rfl)) (fun _ _ _ h => h) (Or.inl ⟨by rfl, ?_⟩) ?_ ?_
                   rotate_left
                   ·intro w'
                    go_simp
                    with_reducible rfl
                   rotate_left
                   ·simp only [Act.put, List.setIfInBounds_toArray, List.set_cons_zero, List.set_cons_succ, i64_w, i32_w]
                    rfl
                   refine take_ (i := 1) (N := some 39) (v := ?_) (a' := ?_) #[Y,Y,O,Y,O,O,Y,O,O,Y,Y,Y,Y,O,O,O] rfl rfl (take_ofW HT_.out HW_.out (by kernel_rfl)) (fun _ _ _ h => h) (Or.inl ⟨by rfl, ?_⟩) hHeld ?_ ?_
                   rotate_left
                   ·intro w' _
                    go_simp
                    with_reducible rfl
                   rotate_left
                   ·simp only [Act.put, List.setIfInBounds_toArray, List.set_cons_zero, List.set_cons_succ, i64_w, i32_w]
                    rfl
                   refine pure_ (i := 2) (N := some 40) (v := ?_) (a' := ?_) #[Y,Y,Y,Y,O,O,Y,O,O,Y,Y,Y,Y,O,O,O] rfl rfl (any_of HT_.out (by kernel_rfl)) (fun _ _ _ h => h) (Or.inl ⟨by rfl, ?_⟩) ?_ ?_
                   rotate_left
                   ·intro w'
                    go_simp
                    with_reducible rfl
                   rotate_left
                   ·simp only [Act.put, List.setIfInBounds_toArray, List.set_cons_zero, List.set_cons_succ, i64_w, i32_w]
                    rfl
                   refine take_ (i := 4) (N := some 42) (v := ?_) (a' := ?_) #[Y,Y,Y,Y,Y,O,Y,O,O,Y,Y,Y,Y,O,O,O] rfl rfl (take_ofW HT_.out HW_.out (by kernel_rfl)) (fun _ _ _ h => h) (Or.inl ⟨by rfl, ?_⟩) hHeld ?_ ?_
                   rotate_left
                   ·intro w' _
                    go_simp
                    with_reducible rfl
                   rotate_left
                   ·simp only [Act.put, List.setIfInBounds_toArray, List.set_cons_zero, List.set_cons_succ, i64_w, i32_w]
                    rfl
                   refine pure_ (i := 5) (N := some 43) (v := ?_) (a' := ?_) #[Y,Y,Y,Y,Y,Y,Y,O,O,Y,Y,Y,Y,O,O,O] rfl rfl (any_of HT_.out (by kernel_rfl)) (fun _ _ _ h => h) (Or.inl ⟨by rfl, ?_⟩) ?_ ?_
                   rotate_left
                   ·intro w'
                    go_simp
                    with_reducible rfl
                   rotate_left
                   ·simp only [Act.put, List.setIfInBounds_toArray, List.set_cons_zero, List.set_cons_succ, i64_w, i32_w]
                    rfl
                   refine take_ (i := 7) (N := some 45) (v := ?_) (a' := ?_) #[Y,Y,Y,Y,Y,Y,Y,Y,O,Y,Y,Y,Y,O,O,O] rfl rfl (take_ofW HT_.out HW_.out (by kernel_rfl)) (fun _ _ _ h => h) (Or.inl ⟨by rfl, ?_⟩) hHeld ?_ ?_
                   rotate_left
                   ·intro w' _
                    go_simp
                    with_reducible rfl
                   rotate_left
                   ·simp only [Act.put, List.setIfInBounds_toArray, List.set_cons_zero, List.set_cons_succ, i64_w, i32_w]
                    rfl
                   refine pure_ (i := 8) (N := some 46) (v := ?_) (a' := ?_) #[Y,Y,Y,Y,Y,Y,Y,Y,Y,Y,Y,Y,Y,O,O,O] rfl rfl (any_of HT_.out (by kernel_rfl)) (fun _ _ _ h => h) (Or.inl ⟨by rfl, ?_⟩) ?_ ?_
                   rotate_left
                   ·intro w'
                    go_simp
                    with_reducible rfl
                   rotate_left
                   ·simp only [Act.put, List.setIfInBounds_toArray, List.set_cons_zero, List.set_cons_succ, i64_w, i32_w]
                    rfl
                   refine pure_ (i := 13) (N := some 51) (v := ?_) (a' := ?_) #[Y,Y,Y,Y,Y,Y,Y,Y,Y,Y,Y,Y,Y,Y,O,O] rfl rfl (any_of HT_.out (by kernel_rfl)) (fun _ _ _ h => h) (Or.inl ⟨by rfl, ?_⟩) ?_ ?_
                   rotate_left
                   ·intro w'
                    go_simp
                    with_reducible rfl
                   rotate_left
                   ·simp only [Act.put, List.setIfInBounds_toArray, List.set_cons_zero, List.set_cons_succ, i64_w, i32_w]
                    rfl
                   refine one_ (i := 14) (N := some 8) #[Y,Y,Y,Y,Y,Y,Y,Y,Y,Y,Y,Y,Y,Y,Y,O] rfl rfl (one_of HT_.out (by kernel_rfl)) (by decide) (fun K hK => ?_)
                   refine box_step ?hg (N := 8) ?hd (cs := #[.int .i64 0, .int .i64 0, .int .i64 0, .string (⟨#[]⟩ : ByteArray)]) (t := 27) ?hr ?_; (case hd => rfl); (case hg => rfl); (case hr => first | (go_simp; done) | (go_simp; rfl))
                   intro gb144 hg w47 hbox hb
                   have n0_ := Aside0.mk (blk_below (g := gb143) (o := .cells #[.int .i64 0, .int .i64 0, .int .i64 0, .string (⟨#[]⟩ : ByteArray)] 27 (0, 0)) (by (with_reducible repeat (first | refine blk_drewN ?_ _ | refine blk_drew ?_ | refine blk_alloc ?_ _)); exact BK143.out) hb)
                   have n1_ := Aside0.mk (below_step (by repeat (first | (with_reducible first | exact HB.out | apply below_alloc | apply pw_below_drewN | apply below_drew1 | refine below_set ?_ GE143.out) | exact HB.out)) hb)
                   have n2_ := Aside0.mk (hbox)
                   have n3_ := Aside0.mk ((by rw [hg]; exact (below_size (by repeat (first | (with_reducible first | exact HB.out | apply below_alloc | apply pw_below_drewN | apply below_drew1 | refine below_set ?_ GE143.out) | exact HB.out))) : w.heap.size ≤ gb144))
                   have n4_ := Aside0.mk ((by rw [hg]; exact (below_size (by repeat (first | (with_reducible first | exact HB.out | apply below_alloc | apply pw_below_drewN | apply below_drew1 | refine below_set ?_ GE143.out) | exact HB.out))) : w.heap.size ≤ gb144))
                   have n5_ := Aside0.mk ((by rw [hg]; exact Nat.ne_of_lt (blk_lt (g := gb143) (o := .cells #[.int .i64 0, .int .i64 0, .int .i64 0, .string (⟨#[]⟩ : ByteArray)] 27 (0, 0)) (by (with_reducible repeat (first | refine blk_drewN ?_ _ | refine blk_drew ?_ | refine blk_alloc ?_ _)); exact BK143.out)) : gb143 ≠ gb144))
                   have n6_ := Aside0.mk ((by rw [hg]; exact Nat.ne_of_gt (blk_lt (g := gb143) (o := .cells #[.int .i64 0, .int .i64 0, .int .i64 0, .string (⟨#[]⟩ : ByteArray)] 27 (0, 0)) (by (with_reducible repeat (first | refine blk_drewN ?_ _ | refine blk_drew ?_ | refine blk_alloc ?_ _)); exact BK143.out)) : gb144 ≠ gb143))
                   clear BK143
                   clear HB
                   have BK143 := n0_
                   have HB := n1_
                   have BK144 := n2_
                   have GW144 := n3_
                   have GE144 := n4_
                   have NB143_144 := n5_
                   have NB144_143 := n6_
                   clear n0_ n1_ n2_ n3_ n4_ n5_ n6_
                   clear hb hbox hg
                   refine hK.out _ _ trivial (fun hHeld => ?_)
                   clear hK K
                   refine norm_ (a' := ?_) ?_ ?_
                   rotate_left
                   ·show Act.put _ (some 8) _ = _
                    simp only [Act.put, List.setIfInBounds_toArray, List.set_cons_zero, List.set_cons_succ, i64_w, i32_w]
                    rfl
                   refine one_ (i := 15) (N := none) #[Y,Y,Y,Y,Y,Y,Y,Y,Y,Y,Y,Y,Y,Y,Y,Y] rfl rfl (one_of HT_.out (by kernel_rfl)) (by decide) (fun K hK => ?_)
                   have hs48 : w47.cell? ⟨gb144, 0, none⟩ = some (.int .i64 0) := (blk_cell BK144.out 0).trans rfl
                   have hfs48 := blk_frozen BK144.out 0
                   have hns48_0 := NB143_144.out
                   have hms48_0 := NB144_143.out
                   have hs49 : w47.cell? ⟨gb144, 1, none⟩ = some (.int .i64 0) := (blk_cell BK144.out 1).trans rfl
                   have hfs49 := blk_frozen BK144.out 1
                   have hns49_0 := NB143_144.out
                   have hms49_0 := NB144_143.out
                   have hs50 : w47.cell? ⟨gb144, 2, none⟩ = some (.int .i64 0) := (blk_cell BK144.out 2).trans rfl
                   have hfs50 := blk_frozen BK144.out 2
                   have hns50_0 := NB143_144.out
                   have hms50_0 := NB144_143.out
                   have hs51 : w47.cell? ⟨gb144, 3, none⟩ = some (.string (⟨#[]⟩ : ByteArray)) := (blk_cell BK144.out 3).trans rfl
                   have hfs51 := blk_frozen BK144.out 3
                   have hns51_0 := NB143_144.out
                   have hms51_0 := NB144_143.out
                   refine skip_ (w1 := ?_) (by rfl) rfl ?_ ?_
                   rotate_left
                   ·go_simp
                    rfl
                   refine hK.out _ _ trivial (fun hHeld => ?_)
                   clear hK K
                   refine done_ (done_of HT_.out (by kernel_rfl)) ?_
                   try go_wp2
                   have n0_ : Aside0 (((((w47.setCell ⟨gb144, 0, none⟩ (.int .i64 (wrap64 (bt (a0.extract ((ji14) : Int).toNat ((wrap64 ((ji14) + (wrap64 (bt a0 a1)))) : Int).toNat) 0)))).setCell ⟨gb144, 1, none⟩ (.int .i64 (wrap64 (bt (a0.extract ((ji14) : Int).toNat ((wrap64 ((ji14) + (wrap64 (bt a0 a1)))) : Int).toNat) 1)))).setCell ⟨gb144, 2, none⟩ (.int .i64 (wrap64 (bt (a0.extract ((ji14) : Int).toNat ((wrap64 ((ji14) + (wrap64 (bt a0 a1)))) : Int).toNat) 2)))).setCell ⟨gb144, 3, none⟩ (.string ((a0.extract ((ji14) : Int).toNat ((wrap64 ((ji14) + (wrap64 (bt a0 a1)))) : Int).toNat).extract 3 ((wrap64 ((wrap64 (bt a0 a1)) - 2)) : Int).toNat))).heap[gb143]? = some (.cells #[.int .i64 0, .int .i64 0, .int .i64 0, .string (⟨#[]⟩ : ByteArray)] 27 (0, 0))) := ⟨by (with_reducible repeat (first | refine blk_drewN ?_ _ | refine blk_drew ?_ | refine blk_alloc ?_ _)); refine blk_far ?_ NB143_144.out _; (with_reducible repeat (first | refine blk_drewN ?_ _ | refine blk_drew ?_ | refine blk_alloc ?_ _)); refine blk_far ?_ NB143_144.out _; (with_reducible repeat (first | refine blk_drewN ?_ _ | refine blk_drew ?_ | refine blk_alloc ?_ _)); refine blk_far ?_ NB143_144.out _; (with_reducible repeat (first | refine blk_drewN ?_ _ | refine blk_drew ?_ | refine blk_alloc ?_ _)); refine blk_far ?_ NB143_144.out _; (with_reducible repeat (first | refine blk_drewN ?_ _ | refine blk_drew ?_ | refine blk_alloc ?_ _)); exact BK143.out⟩
                   have n1_ : Aside0 (((((w47.setCell ⟨gb144, 0, none⟩ (.int .i64 (wrap64 (bt (a0.extract ((ji14) : Int).toNat ((wrap64 ((ji14) + (wrap64 (bt a0 a1)))) : Int).toNat) 0)))).setCell ⟨gb144, 1, none⟩ (.int .i64 (wrap64 (bt (a0.extract ((ji14) : Int).toNat ((wrap64 ((ji14) + (wrap64 (bt a0 a1)))) : Int).toNat) 1)))).setCell ⟨gb144, 2, none⟩ (.int .i64 (wrap64 (bt (a0.extract ((ji14) : Int).toNat ((wrap64 ((ji14) + (wrap64 (bt a0 a1)))) : Int).toNat) 2)))).setCell ⟨gb144, 3, none⟩ (.string ((a0.extract ((ji14) : Int).toNat ((wrap64 ((ji14) + (wrap64 (bt a0 a1)))) : Int).toNat).extract 3 ((wrap64 ((wrap64 (bt a0 a1)) - 2)) : Int).toNat))).heap[gb144]? = some (.cells #[.int .i64 (wrap64 (bt (a0.extract ((ji14) : Int).toNat ((wrap64 ((ji14) + (wrap64 (bt a0 a1)))) : Int).toNat) 0)), .int .i64 (wrap64 (bt (a0.extract ((ji14) : Int).toNat ((wrap64 ((ji14) + (wrap64 (bt a0 a1)))) : Int).toNat) 1)), .int .i64 (wrap64 (bt (a0.extract ((ji14) : Int).toNat ((wrap64 ((ji14) + (wrap64 (bt a0 a1)))) : Int).toNat) 2)), .string ((a0.extract ((ji14) : Int).toNat ((wrap64 ((ji14) + (wrap64 (bt a0 a1)))) : Int).toNat).extract 3 ((wrap64 ((wrap64 (bt a0 a1)) - 2)) : Int).toNat)] 27 (0, 0))) := ⟨by (with_reducible repeat (first | refine blk_drewN ?_ _ | refine blk_drew ?_ | refine blk_alloc ?_ _)); refine blk_put (cs := #[.int .i64 (wrap64 (bt (a0.extract ((ji14) : Int).toNat ((wrap64 ((ji14) + (wrap64 (bt a0 a1)))) : Int).toNat) 0)), .int .i64 (wrap64 (bt (a0.extract ((ji14) : Int).toNat ((wrap64 ((ji14) + (wrap64 (bt a0 a1)))) : Int).toNat) 1)), .int .i64 (wrap64 (bt (a0.extract ((ji14) : Int).toNat ((wrap64 ((ji14) + (wrap64 (bt a0 a1)))) : Int).toNat) 2)), .string (⟨#[]⟩ : ByteArray)]) ?_ 3 _ rfl; (with_reducible repeat (first | refine blk_drewN ?_ _ | refine blk_drew ?_ | refine blk_alloc ?_ _)); refine blk_put (cs := #[.int .i64 (wrap64 (bt (a0.extract ((ji14) : Int).toNat ((wrap64 ((ji14) + (wrap64 (bt a0 a1)))) : Int).toNat) 0)), .int .i64 (wrap64 (bt (a0.extract ((ji14) : Int).toNat ((wrap64 ((ji14) + (wrap64 (bt a0 a1)))) : Int).toNat) 1)), .int .i64 0, .string (⟨#[]⟩ : ByteArray)]) ?_ 2 _ rfl; (with_reducible repeat (first | refine blk_drewN ?_ _ | refine blk_drew ?_ | refine blk_alloc ?_ _)); refine blk_put (cs := #[.int .i64 (wrap64 (bt (a0.extract ((ji14) : Int).toNat ((wrap64 ((ji14) + (wrap64 (bt a0 a1)))) : Int).toNat) 0)), .int .i64 0, .int .i64 0, .string (⟨#[]⟩ : ByteArray)]) ?_ 1 _ rfl; (with_reducible repeat (first | refine blk_drewN ?_ _ | refine blk_drew ?_ | refine blk_alloc ?_ _)); refine blk_put (cs := #[.int .i64 0, .int .i64 0, .int .i64 0, .string (⟨#[]⟩ : ByteArray)]) ?_ 0 _ rfl; (with_reducible repeat (first | refine blk_drewN ?_ _ | refine blk_drew ?_ | refine blk_alloc ?_ _)); exact BK144.out⟩
                   have n2_ : Aside0 (Below w.heap.size w ((((w47.setCell ⟨gb144, 0, none⟩ (.int .i64 (wrap64 (bt (a0.extract ((ji14) : Int).toNat ((wrap64 ((ji14) + (wrap64 (bt a0 a1)))) : Int).toNat) 0)))).setCell ⟨gb144, 1, none⟩ (.int .i64 (wrap64 (bt (a0.extract ((ji14) : Int).toNat ((wrap64 ((ji14) + (wrap64 (bt a0 a1)))) : Int).toNat) 1)))).setCell ⟨gb144, 2, none⟩ (.int .i64 (wrap64 (bt (a0.extract ((ji14) : Int).toNat ((wrap64 ((ji14) + (wrap64 (bt a0 a1)))) : Int).toNat) 2)))).setCell ⟨gb144, 3, none⟩ (.string ((a0.extract ((ji14) : Int).toNat ((wrap64 ((ji14) + (wrap64 (bt a0 a1)))) : Int).toNat).extract 3 ((wrap64 ((wrap64 (bt a0 a1)) - 2)) : Int).toNat)))) := ⟨by repeat (first | (with_reducible first | exact HB.out | apply below_alloc | apply pw_below_drewN | apply below_drew1 | refine below_set ?_ GE143.out | refine below_set ?_ GE144.out) | exact HB.out)⟩
                   (try clear BK143)
                   (try clear BK144)
                   (try clear HB)
                   generalize ((((w47.setCell ⟨gb144, 0, none⟩ (.int .i64 (wrap64 (bt (a0.extract ((ji14) : Int).toNat ((wrap64 ((ji14) + (wrap64 (bt a0 a1)))) : Int).toNat) 0)))).setCell ⟨gb144, 1, none⟩ (.int .i64 (wrap64 (bt (a0.extract ((ji14) : Int).toNat ((wrap64 ((ji14) + (wrap64 (bt a0 a1)))) : Int).toNat) 1)))).setCell ⟨gb144, 2, none⟩ (.int .i64 (wrap64 (bt (a0.extract ((ji14) : Int).toNat ((wrap64 ((ji14) + (wrap64 (bt a0 a1)))) : Int).toNat) 2)))).setCell ⟨gb144, 3, none⟩ (.string ((a0.extract ((ji14) : Int).toNat ((wrap64 ((ji14) + (wrap64 (bt a0 a1)))) : Int).toNat).extract 3 ((wrap64 ((wrap64 (bt a0 a1)) - 2)) : Int).toNat))) = w52 at n0_ n1_ n2_ ⊢
                   have BK143 := n0_
                   have BK144 := n1_
                   have HB := n2_
                   clear n0_ n1_ n2_
                   have n0_ := Aside0.mk (blk_drew BK143.out)
                   have n1_ := Aside0.mk (blk_drew BK144.out)
                   have n2_ := Aside0.mk (below_drew1 HB.out)
                   clear BK143
                   clear BK144
                   clear HB
                   have BK143 := n0_
                   have BK144 := n1_
                   have HB := n2_
                   clear n0_ n1_ n2_
                   refine start_ (n := 15) (S := fun w' => w'.cell? ⟨gb144, 0, none⟩ = some (.int .i64 (wrap64 (bt (a0.extract ((ji14) : Int).toNat ((wrap64 ((ji14) + (wrap64 (bt a0 a1)))) : Int).toNat) 0))) ∧ w'.cell? ⟨gb144, 1, none⟩ = some (.int .i64 (wrap64 (bt (a0.extract ((ji14) : Int).toNat ((wrap64 ((ji14) + (wrap64 (bt a0 a1)))) : Int).toNat) 1))) ∧ w'.cell? ⟨gb144, 2, none⟩ = some (.int .i64 (wrap64 (bt (a0.extract ((ji14) : Int).toNat ((wrap64 ((ji14) + (wrap64 (bt a0 a1)))) : Int).toNat) 2))) ∧ w'.cell? ⟨gb144, 3, none⟩ = some (.string ((a0.extract ((ji14) : Int).toNat ((wrap64 ((ji14) + (wrap64 (bt a0 a1)))) : Int).toNat).extract 3 ((wrap64 ((wrap64 (bt a0 a1)) - 2)) : Int).toNat))) (ds := []) #[O,O,O,O,O,O,O,O,O,O,O,O,O,O,O] (by kernel_rfl) rfl rfl ⟨(blk_cell BK144.out 0).trans rfl, (blk_cell BK144.out 1).trans rfl, (blk_cell BK144.out 2).trans rfl, (blk_cell BK144.out 3).trans rfl⟩ (fun hHeld => ?_); refine with_tabW spec_l3Read.tab8 spec_l3Read.bits8 (fun HT_ HW_ => ?_)
                   generalize w52.drew = w53 at BK143 BK144 HB hHeld ⊢
                   refine take_ (i := 0) (N := some 52) (v := ?_) (a' := ?_) #[Y,O,O,O,O,O,O,O,O,O,O,O,O,O,O] rfl rfl (take_ofW HT_.out HW_.out (by kernel_rfl)) (fun _ _ _ h => h) (Or.inl ⟨by rfl, ?_⟩) hHeld ?_ ?_
                   rotate_left
                   ·rintro w' ⟨s0, s1, s2, s3⟩
                    go_simp
                    with_reducible rfl
                   rotate_left
                   ·simp only [Act.put, List.setIfInBounds_toArray, List.set_cons_zero, List.set_cons_succ, i64_w, i32_w]
                    rfl
                   refine one_ (i := 1) (N := some 53) #[Y,Y,O,O,O,O,O,O,O,O,O,O,O,O,O] rfl rfl (one_of HT_.out (by kernel_rfl)) (by decide) (fun K hK => ?_)
                   refine goes_ Try.func46 (by kernel_rfl) rfl #[.agg #[.int .i64 (wrap64 (bt (a0.extract ((ji14) : Int).toNat ((wrap64 ((ji14) + (wrap64 (bt a0 a1)))) : Int).toNat) 0)), .int .i64 (wrap64 (bt (a0.extract ((ji14) : Int).toNat ((wrap64 ((ji14) + (wrap64 (bt a0 a1)))) : Int).toNat) 1)), .int .i64 (wrap64 (bt (a0.extract ((ji14) : Int).toNat ((wrap64 ((ji14) + (wrap64 (bt a0 a1)))) : Int).toNat) 2)), .string ((a0.extract ((ji14) : Int).toNat ((wrap64 ((ji14) + (wrap64 (bt a0 a1)))) : Int).toNat).extract 3 ((wrap64 ((wrap64 (bt a0 a1)) - 2)) : Int).toNat)]] (by rfl) rfl rfl (by (try simp only [List.map_toArray, List.map_cons, List.map_nil]); first | done | (simp only [hji14]; rfl) | rfl | (simp only [List.length_drop, List.length_take]; rfl)) ?_
                   with_reducible refine (spec_GoodRecord.calls (wrap64 (bt (a0.extract ((ji14) : Int).toNat ((wrap64 ((ji14) + (wrap64 (bt a0 a1)))) : Int).toNat) 0)) (wrap64 (bt (a0.extract ((ji14) : Int).toNat ((wrap64 ((ji14) + (wrap64 (bt a0 a1)))) : Int).toNat) 1)) (wrap64 (bt (a0.extract ((ji14) : Int).toNat ((wrap64 ((ji14) + (wrap64 (bt a0 a1)))) : Int).toNat) 2)) ((a0.extract ((ji14) : Int).toNat ((wrap64 ((ji14) + (wrap64 (bt a0 a1)))) : Int).toNat).extract 3 ((wrap64 ((wrap64 (bt a0 a1)) - 2)) : Int).toNat) true _ A26.out).mono ?_
                   rintro e w54 ⟨rfl, hb⟩
                   refine ⟨_, rfl, ?_⟩
                   have n0_ := Aside0.mk (blk_below (g := gb143) (o := .cells #[.int .i64 0, .int .i64 0, .int .i64 0, .string (⟨#[]⟩ : ByteArray)] 27 (0, 0)) (by (with_reducible repeat (first | refine blk_drewN ?_ _ | refine blk_drew ?_ | refine blk_alloc ?_ _)); exact BK143.out) hb)
                   have n1_ := Aside0.mk (blk_below (g := gb144) (o := .cells #[.int .i64 (wrap64 (bt (a0.extract ((ji14) : Int).toNat ((wrap64 ((ji14) + (wrap64 (bt a0 a1)))) : Int).toNat) 0)), .int .i64 (wrap64 (bt (a0.extract ((ji14) : Int).toNat ((wrap64 ((ji14) + (wrap64 (bt a0 a1)))) : Int).toNat) 1)), .int .i64 (wrap64 (bt (a0.extract ((ji14) : Int).toNat ((wrap64 ((ji14) + (wrap64 (bt a0 a1)))) : Int).toNat) 2)), .string ((a0.extract ((ji14) : Int).toNat ((wrap64 ((ji14) + (wrap64 (bt a0 a1)))) : Int).toNat).extract 3 ((wrap64 ((wrap64 (bt a0 a1)) - 2)) : Int).toNat)] 27 (0, 0)) (by (with_reducible repeat (first | refine blk_drewN ?_ _ | refine blk_drew ?_ | refine blk_alloc ?_ _)); exact BK144.out) hb)
                   have n2_ := Aside0.mk (below_step (by repeat (first | (with_reducible first | exact HB.out | apply below_alloc | apply pw_below_drewN | apply below_drew1 | refine below_set ?_ GE143.out | refine below_set ?_ GE144.out) | exact HB.out)) hb)
                   clear BK143
                   clear BK144
                   clear HB
                   have BK143 := n0_
                   have BK144 := n1_
                   have HB := n2_
                   clear n0_ n1_ n2_
                   (try clear hb)
                   (try clear hb2)
                   (try clear hk)
                   (try clear hi)
                   refine hK.out _ _ ⟨(blk_cell BK144.out 0).trans rfl, (blk_cell BK144.out 1).trans rfl, (blk_cell BK144.out 2).trans rfl, (blk_cell BK144.out 3).trans rfl⟩ (fun hHeld => ?_)
                   clear hK K
                   refine norm_ (a' := ?_) ?_ ?_
                   rotate_left
                   ·show Act.put _ (some 53) _ = _
                    simp only [Act.put, List.setIfInBounds_toArray, List.set_cons_zero, List.set_cons_succ, i64_w, i32_w]
                    rfl
                   refine pure_ (i := 2) (N := some 54) (v := ?_) (a' := ?_) #[Y,Y,Y,O,O,O,O,O,O,O,O,O,O,O,O] rfl rfl (any_of HT_.out (by kernel_rfl)) (fun _ _ _ h => h) (Or.inl ⟨by rfl, ?_⟩) ?_ ?_
                   rotate_left
                   ·intro w'
                    go_simp
                    with_reducible rfl
                   rotate_left
                   ·simp only [Act.put, List.setIfInBounds_toArray, List.set_cons_zero, List.set_cons_succ, i64_w, i32_w]
                    rfl
                   refine pure_ (i := 3) (N := some 55) (v := ?_) (a' := ?_) #[Y,Y,Y,Y,O,O,O,O,O,O,O,O,O,O,O] rfl rfl (any_of HT_.out (by kernel_rfl)) (fun _ _ _ h => h) (Or.inl ⟨by rfl, ?_⟩) ?_ ?_
                   rotate_left
                   ·intro w'
                    go_simp
                    with_reducible rfl
                   rotate_left
                   ·simp only [Act.put, List.setIfInBounds_toArray, List.set_cons_zero, List.set_cons_succ, i64_w, i32_w]
                    rfl
                   refine pure_ (i := 6) (N := some 58) (v := ?_) (a' := ?_) #[Y,Y,Y,Y,O,O,Y,O,O,O,O,O,O,O,O] rfl rfl (any_of HT_.out (by kernel_rfl)) (fun _ _ _ h => h) (Or.inl ⟨by rfl, ?_⟩) ?_ ?_
                   rotate_left
                   ·intro w'
                    go_simp
                    with_reducible rfl
                   rotate_left
                   ·simp only [Act.put, List.setIfInBounds_toArray, List.set_cons_zero, List.set_cons_succ, i64_w, i32_w]
                    rfl
                   refine pure_ (i := 7) (N := some 59) (v := ?_) (a' := ?_) #[Y,Y,Y,Y,O,O,Y,Y,O,O,O,O,O,O,O] rfl rfl (any_of HT_.out (by kernel_rfl)) (fun _ _ _ h => h) (Or.inl ⟨by rfl, ?_⟩) ?_ ?_
                   rotate_left
                   ·intro w'
                    go_simp
                    with_reducible rfl
                   rotate_left
                   ·simp only [Act.put, List.setIfInBounds_toArray, List.set_cons_zero, List.set_cons_succ, i64_w, i32_w]
                    rfl
                   refine pure_ (i := 8) (N := some 60) (v := ?_) (a' := ?_) #[Y,Y,Y,Y,O,O,Y,Y,Y,O,O,O,O,O,O] rfl rfl (any_of HT_.out (by kernel_rfl)) (fun _ _ _ h => h) (Or.inl ⟨by rfl, ?_⟩) ?_ ?_
                   rotate_left
                   ·intro w'
                    go_simp
                    with_reducible rfl
                   rotate_left
                   ·simp only [Act.put, List.setIfInBounds_toArray, List.set_cons_zero, List.set_cons_succ, i64_w, i32_w]
                    rfl
                   refine pure_ (i := 9) (N := some 61) (v := ?_) (a' := ?_) #[Y,Y,Y,Y,O,O,Y,Y,Y,Y,O,O,O,O,O] rfl rfl (any_of HT_.out (by kernel_rfl)) (fun _ _ _ h => h) (Or.inl ⟨by rfl, ?_⟩) ?_ ?_
                   rotate_left
                   ·intro w'
                    go_simp
                    with_reducible rfl
                   rotate_left
                   ·simp only [Act.put, List.setIfInBounds_toArray, List.set_cons_zero, List.set_cons_succ, i64_w, i32_w]
                    rfl
                   refine pure_ (i := 10) (N := some 62) (v := ?_) (a' := ?_) #[Y,Y,Y,Y,O,O,Y,Y,Y,Y,Y,O,O,O,O] rfl rfl (any_of HT_.out (by kernel_rfl)) (fun _ _ _ h => h) (Or.inl ⟨by rfl, ?_⟩) ?_ ?_
                   rotate_left
                   ·intro w'
                    go_simp
                    with_reducible rfl
                   rotate_left
                   ·simp only [Act.put, List.setIfInBounds_toArray, List.set_cons_zero, List.set_cons_succ, i64_w, i32_w]
                    rfl
                   refine pure_ (i := 11) (N := some 63) (v := ?_) (a' := ?_) #[Y,Y,Y,Y,O,O,Y,Y,Y,Y,Y,Y,O,O,O] rfl rfl (any_of HT_.out (by kernel_rfl)) (fun _ _ _ h => h) (Or.inl ⟨by rfl, ?_⟩) ?_ ?_
                   rotate_left
                   ·intro w'
                    go_simp
                    with_reducible rfl
                   rotate_left
                   ·simp only [Act.put, List.setIfInBounds_toArray, List.set_cons_zero, List.set_cons_succ, i64_w, i32_w]
                    rfl
                   refine pure_ (i := 12) (N := some 64) (v := ?_) (a' := ?_) #[Y,Y,Y,Y,O,O,Y,Y,Y,Y,Y,Y,Y,O,O] rfl rfl (any_of HT_.out (by kernel_rfl)) (fun _ _ _ h => h) (Or.inl ⟨by rfl, ?_⟩) ?_ ?_
                   rotate_left
                   ·intro w'
                    go_simp
                    with_reducible rfl
                   rotate_left
                   ·simp only [Act.put, List.setIfInBounds_toArray, List.set_cons_zero, List.set_cons_succ, i64_w, i32_w]
                    rfl
                   refine take_ (i := 4) (N := some 56) (v := ?_) (a' := ?_) #[Y,Y,Y,Y,Y,O,Y,Y,Y,Y,Y,Y,Y,O,O] rfl rfl (take_ofW HT_.out HW_.out (by kernel_rfl)) (fun _ _ _ h => h) (Or.inl ⟨by rfl, ?_⟩) hHeld ?_ ?_
                   rotate_left
                   ·rintro w' ⟨s0, s1, s2, s3⟩
                    go_simp
                    with_reducible rfl
                   rotate_left
                   ·simp only [Act.put, List.setIfInBounds_toArray, List.set_cons_zero, List.set_cons_succ, i64_w, i32_w]
                    rfl
                   refine one_ (i := 5) (N := some 57) #[Y,Y,Y,Y,Y,Y,Y,Y,Y,Y,Y,Y,Y,O,O] rfl rfl (one_of HT_.out (by kernel_rfl)) (by decide) (fun K hK => ?_)
                   refine goes_ Try.func47 (by kernel_rfl) rfl #[.agg #[.int .i64 (wrap64 (bt (a0.extract ((ji14) : Int).toNat ((wrap64 ((ji14) + (wrap64 (bt a0 a1)))) : Int).toNat) 0)), .int .i64 (wrap64 (bt (a0.extract ((ji14) : Int).toNat ((wrap64 ((ji14) + (wrap64 (bt a0 a1)))) : Int).toNat) 1)), .int .i64 (wrap64 (bt (a0.extract ((ji14) : Int).toNat ((wrap64 ((ji14) + (wrap64 (bt a0 a1)))) : Int).toNat) 2)), .string ((a0.extract ((ji14) : Int).toNat ((wrap64 ((ji14) + (wrap64 (bt a0 a1)))) : Int).toNat).extract 3 ((wrap64 ((wrap64 (bt a0 a1)) - 2)) : Int).toNat)]] (by rfl) rfl rfl (by (try simp only [List.map_toArray, List.map_cons, List.map_nil]); first | done | (simp only [hji14]; rfl) | rfl | (simp only [List.length_drop, List.length_take]; rfl)) ?_
                   with_reducible refine (spec_l3Text.calls kj8 (wrap64 (bt (a0.extract ((ji14) : Int).toNat ((wrap64 ((ji14) + (wrap64 (bt a0 a1)))) : Int).toNat) 0)) (wrap64 (bt (a0.extract ((ji14) : Int).toNat ((wrap64 ((ji14) + (wrap64 (bt a0 a1)))) : Int).toNat) 1)) (wrap64 (bt (a0.extract ((ji14) : Int).toNat ((wrap64 ((ji14) + (wrap64 (bt a0 a1)))) : Int).toNat) 2)) ((a0.extract ((ji14) : Int).toNat ((wrap64 ((ji14) + (wrap64 (bt a0 a1)))) : Int).toNat).extract 3 ((wrap64 ((wrap64 (bt a0 a1)) - 2)) : Int).toNat) t146 _ A28.out).mono ?_
                   rintro e w55 ⟨rfl, hb⟩
                   refine ⟨_, rfl, ?_⟩
                   have n0_ := Aside0.mk (blk_below (g := gb143) (o := .cells #[.int .i64 0, .int .i64 0, .int .i64 0, .string (⟨#[]⟩ : ByteArray)] 27 (0, 0)) (by (with_reducible repeat (first | refine blk_drewN ?_ _ | refine blk_drew ?_ | refine blk_alloc ?_ _)); exact BK143.out) hb)
                   have n1_ := Aside0.mk (blk_below (g := gb144) (o := .cells #[.int .i64 (wrap64 (bt (a0.extract ((ji14) : Int).toNat ((wrap64 ((ji14) + (wrap64 (bt a0 a1)))) : Int).toNat) 0)), .int .i64 (wrap64 (bt (a0.extract ((ji14) : Int).toNat ((wrap64 ((ji14) + (wrap64 (bt a0 a1)))) : Int).toNat) 1)), .int .i64 (wrap64 (bt (a0.extract ((ji14) : Int).toNat ((wrap64 ((ji14) + (wrap64 (bt a0 a1)))) : Int).toNat) 2)), .string ((a0.extract ((ji14) : Int).toNat ((wrap64 ((ji14) + (wrap64 (bt a0 a1)))) : Int).toNat).extract 3 ((wrap64 ((wrap64 (bt a0 a1)) - 2)) : Int).toNat)] 27 (0, 0)) (by (with_reducible repeat (first | refine blk_drewN ?_ _ | refine blk_drew ?_ | refine blk_alloc ?_ _)); exact BK144.out) hb)
                   have n2_ := Aside0.mk (below_step (by repeat (first | (with_reducible first | exact HB.out | apply below_alloc | apply pw_below_drewN | apply below_drew1 | refine below_set ?_ GE143.out | refine below_set ?_ GE144.out) | exact HB.out)) hb)
                   clear BK143
                   clear BK144
                   clear HB
                   have BK143 := n0_
                   have BK144 := n1_
                   have HB := n2_
                   clear n0_ n1_ n2_
                   (try clear hb)
                   (try clear hb2)
                   (try clear hk)
                   (try clear hi)
                   refine hK.out _ _ ⟨(blk_cell BK144.out 0).trans rfl, (blk_cell BK144.out 1).trans rfl, (blk_cell BK144.out 2).trans rfl, (blk_cell BK144.out 3).trans rfl⟩ (fun hHeld => ?_)
                   clear hK K
                   refine norm_ (a' := ?_) ?_ ?_
                   rotate_left
                   ·show Act.put _ (some 57) _ = _
                    simp only [Act.put, List.setIfInBounds_toArray, List.set_cons_zero, List.set_cons_succ, i64_w, i32_w]
                    rfl
                   refine pure_ (i := 13) (N := some 65) (v := ?_) (a' := ?_) #[Y,Y,Y,Y,Y,Y,Y,Y,Y,Y,Y,Y,Y,Y,O] rfl rfl (any_of HT_.out (by kernel_rfl)) (fun _ _ _ h => h) (Or.inl ⟨by rfl, ?_⟩) ?_ ?_
                   rotate_left
                   ·intro w'
                    go_simp
                    with_reducible rfl
                   rotate_left
                   ·simp only [Act.put, List.setIfInBounds_toArray, List.set_cons_zero, List.set_cons_succ, i64_w, i32_w]
                    rfl
                   refine pure_ (i := 14) (N := some 66) (v := ?_) (a' := ?_) #[Y,Y,Y,Y,Y,Y,Y,Y,Y,Y,Y,Y,Y,Y,Y] rfl rfl (any_of HT_.out (by kernel_rfl)) (fun _ _ _ h => h) (Or.inl ⟨by rfl, ?_⟩) ?_ ?_
                   rotate_left
                   ·intro w'
                    go_simp
                    with_reducible rfl
                   rotate_left
                   ·simp only [Act.put, List.setIfInBounds_toArray, List.set_cons_zero, List.set_cons_succ, i64_w, i32_w]
                    rfl
                   refine done_ (done_of HT_.out (by kernel_rfl)) ?_
                   have hnb56 := NB143_144.out
                   have hnc56 := NB144_143.out
                   have hcz57_0 : w55.cell? ⟨gb143, 0, none⟩ = some (.int .i64 0) := (blk_cell BK143.out 0).trans rfl
                   have hcz57_1 : w55.cell? ⟨gb143, 1, none⟩ = some (.int .i64 0) := (blk_cell BK143.out 1).trans rfl
                   have hcz57_2 : w55.cell? ⟨gb143, 2, none⟩ = some (.int .i64 0) := (blk_cell BK143.out 2).trans rfl
                   have hcz57_3 : w55.cell? ⟨gb143, 3, none⟩ = some (.string (⟨#[]⟩ : ByteArray)) := (blk_cell BK143.out 3).trans rfl
                   have hfz57_0 := blk_frozen BK143.out 0
                   have hfz57_1 := blk_frozen BK143.out 1
                   have hfz57_2 := blk_frozen BK143.out 2
                   have hfz57_3 := blk_frozen BK143.out 3
                   try go_wp2
                   refine bodyPost_ret (results_ct rfl _ _ gb143 27 #[.int .i64 0, .int .i64 0, .int .i64 0, .string (⟨#[]⟩ : ByteArray)] (0, 0) _ rfl (by (with_reducible repeat (first | refine blk_drewN ?_ _ | refine blk_drew ?_ | refine blk_alloc ?_ _)); refine blk_put (cs := #[.int .i64 0, .int .i64 0, .int .i64 0, .string (⟨#[]⟩ : ByteArray)]) ?_ 3 _ rfl; (with_reducible repeat (first | refine blk_drewN ?_ _ | refine blk_drew ?_ | refine blk_alloc ?_ _)); refine blk_put (cs := #[.int .i64 0, .int .i64 0, .int .i64 0, .string (⟨#[]⟩ : ByteArray)]) ?_ 2 _ rfl; (with_reducible repeat (first | refine blk_drewN ?_ _ | refine blk_drew ?_ | refine blk_alloc ?_ _)); refine blk_put (cs := #[.int .i64 0, .int .i64 0, .int .i64 0, .string (⟨#[]⟩ : ByteArray)]) ?_ 1 _ rfl; (with_reducible repeat (first | refine blk_drewN ?_ _ | refine blk_drew ?_ | refine blk_alloc ?_ _)); refine blk_put (cs := #[.int .i64 0, .int .i64 0, .int .i64 0, .string (⟨#[]⟩ : ByteArray)]) ?_ 0 _ rfl; (with_reducible repeat (first | refine blk_drewN ?_ _ | refine blk_drew ?_ | refine blk_alloc ?_ _)); exact BK143.out) Try.underlying27 rfl (by kernel_rfl)) rfl ?_
                   exact ⟨by first | rfl | (simp [errW_none, errW_some] <;> rfl) | (simp only [← hji14]; first | rfl | (simp [errW_none, errW_some] <;> rfl)) | (simp [*, errW_none, errW_some] <;> rfl), by repeat (first | (with_reducible first | exact HB.out | apply below_alloc | apply pw_below_drewN | apply below_drew1 | refine below_set ?_ GE143.out | refine below_set ?_ GE144.out) | exact HB.out)⟩
                 ·rw [if_neg c30] at H
                  exact absurd H (by simp)
                ·rw [if_neg c29] at H
                 exact absurd H (by simp)
               ·replace c27 := Bool.eq_false_iff.mpr c27
                subst c27
                have H1 : (some (0, 0, 0, (⟨#[]⟩ : ByteArray), (-1))) = some (r1, r2, r3, r4, r5) := by rw [if_neg (show ¬ (false = true) by decide)] at H; exact H
                clear H
                have H := H1
                clear H1
                simp only [Option.some.injEq, Prod.mk.injEq] at H
                obtain ⟨rfl, rfl, rfl, rfl, rfl⟩ := H
                try go_wp2
                have n0_ := Aside0.mk (blk_drew BK143.out)
                have n1_ := Aside0.mk (below_drew1 HB.out)
                clear BK143
                clear HB
                have BK143 := n0_
                have HB := n1_
                clear n0_ n1_
                have p19 : 0 ≤ (0 : Int) := (by omega)
                have q19 : 0 < (a0.extract ((ji14) : Int).toNat ((wrap64 ((ji14) + (wrap64 (bt a0 a1)))) : Int).toNat).size := (by have : (0 : Int) < ((a0.extract ((ji14) : Int).toNat ((wrap64 ((ji14) + (wrap64 (bt a0 a1)))) : Int).toNat).size : Int) := of_decide_eq_true (by first | (with_reducible assumption) | assumption); omega)
                have hx19 : ∀ h : 0 < (a0.extract ((ji14) : Int).toNat ((wrap64 ((ji14) + (wrap64 (bt a0 a1)))) : Int).toNat).size, (((a0.extract ((ji14) : Int).toNat ((wrap64 ((ji14) + (wrap64 (bt a0 a1)))) : Int).toNat)[0]'h).toNat : Int) = bt (a0.extract ((ji14) : Int).toNat ((wrap64 ((ji14) + (wrap64 (bt a0 a1)))) : Int).toNat) 0 := bt_at (a0.extract ((ji14) : Int).toNat ((wrap64 ((ji14) + (wrap64 (bt a0 a1)))) : Int).toNat) 0
                clear p19
                have qi19 : (0 < ((a0.extract ((ji14) : Int).toNat ((wrap64 ((ji14) + (wrap64 (bt a0 a1)))) : Int).toNat).size : Int)) = True := eq_true (of_decide_eq_true (by first | (with_reducible assumption) | assumption))
                replace q19 := eq_true q19
                have p21 : 0 ≤ (1 : Int) := (by omega)
                have q21 : 1 < (a0.extract ((ji14) : Int).toNat ((wrap64 ((ji14) + (wrap64 (bt a0 a1)))) : Int).toNat).size := (by have : (1 : Int) < ((a0.extract ((ji14) : Int).toNat ((wrap64 ((ji14) + (wrap64 (bt a0 a1)))) : Int).toNat).size : Int) := of_decide_eq_true (by first | (with_reducible assumption) | assumption); omega)
                have hx21 : ∀ h : 1 < (a0.extract ((ji14) : Int).toNat ((wrap64 ((ji14) + (wrap64 (bt a0 a1)))) : Int).toNat).size, (((a0.extract ((ji14) : Int).toNat ((wrap64 ((ji14) + (wrap64 (bt a0 a1)))) : Int).toNat)[1]'h).toNat : Int) = bt (a0.extract ((ji14) : Int).toNat ((wrap64 ((ji14) + (wrap64 (bt a0 a1)))) : Int).toNat) 1 := bt_at (a0.extract ((ji14) : Int).toNat ((wrap64 ((ji14) + (wrap64 (bt a0 a1)))) : Int).toNat) 1
                clear p21
                have qi21 : (1 < ((a0.extract ((ji14) : Int).toNat ((wrap64 ((ji14) + (wrap64 (bt a0 a1)))) : Int).toNat).size : Int)) = True := eq_true (of_decide_eq_true (by first | (with_reducible assumption) | assumption))
                replace q21 := eq_true q21
                have p23 : 0 ≤ (2 : Int) := (by omega)
                have q23 : 2 < (a0.extract ((ji14) : Int).toNat ((wrap64 ((ji14) + (wrap64 (bt a0 a1)))) : Int).toNat).size := (by have : (2 : Int) < ((a0.extract ((ji14) : Int).toNat ((wrap64 ((ji14) + (wrap64 (bt a0 a1)))) : Int).toNat).size : Int) := of_decide_eq_true (by first | (with_reducible assumption) | assumption); omega)
                have hx23 : ∀ h : 2 < (a0.extract ((ji14) : Int).toNat ((wrap64 ((ji14) + (wrap64 (bt a0 a1)))) : Int).toNat).size, (((a0.extract ((ji14) : Int).toNat ((wrap64 ((ji14) + (wrap64 (bt a0 a1)))) : Int).toNat)[2]'h).toNat : Int) = bt (a0.extract ((ji14) : Int).toNat ((wrap64 ((ji14) + (wrap64 (bt a0 a1)))) : Int).toNat) 2 := bt_at (a0.extract ((ji14) : Int).toNat ((wrap64 ((ji14) + (wrap64 (bt a0 a1)))) : Int).toNat) 2
                clear p23
                have qi23 : (2 < ((a0.extract ((ji14) : Int).toNat ((wrap64 ((ji14) + (wrap64 (bt a0 a1)))) : Int).toNat).size : Int)) = True := eq_true (of_decide_eq_true (by first | (with_reducible assumption) | assumption))
                replace q23 := eq_true q23
                have hN_ : (a0.extract ((ji14) : Int).toNat ((wrap64 ((ji14) + (wrap64 (bt a0 a1)))) : Int).toNat).size = ((wrap64 ((ji14) + (wrap64 (bt a0 a1)))) : Int).toNat - ((ji14) : Int).toNat := by rw [ByteArray.size_extract, Nat.min_eq_left (Int.toNat_le.2 (by assumption))]
                try (have zq19 := q19; rw [hN_] at zq19)
                try (have zqi19 := qi19; rw [hN_] at zqi19)
                try (have zq21 := q21; rw [hN_] at zq21)
                try (have zqi21 := qi21; rw [hN_] at zqi21)
                try (have zq23 := q23; rw [hN_] at zq23)
                try (have zqi23 := qi23; rw [hN_] at zqi23)
                try (have zc18b0 := c18b0; rw [hN_] at zc18b0)
                try (have zc18b1 := c18b1; rw [hN_] at zc18b1)
                try (have zc20b0 := c20b0; rw [hN_] at zc20b0)
                try (have zc20b1 := c20b1; rw [hN_] at zc20b1)
                try (have zc22b0 := c22b0; rw [hN_] at zc22b0)
                try (have zc22b1 := c22b1; rw [hN_] at zc22b1)
                try (have zc25b1 := c25b1; rw [hN_] at zc25b1)
                try (have zc25b0 := c25b0; rw [hN_] at zc25b0)
                refine start_ (n := 16) (S := fun w' => True) (ds := []) #[O,O,O,O,O,O,O,O,O,O,O,O,O,O,O,O] (by kernel_rfl) rfl rfl trivial (fun hHeld => ?_); refine with_tabW spec_l3Read.tab7 spec_l3Read.bits7 (fun HT_ HW_ => ?_)
                generalize wc.drew = w58 at BK143 HB hHeld ⊢
                refine pure_ (i := 0) (N := some 38) (v := ?_) (a' := ?_) #[Y,O,O,O,O,O,O,O,O,O,O,O,O,O,O,O] rfl rfl (any_of HT_.out (by kernel_rfl)) (fun _ _ _ h => h) (Or.inl ⟨by rfl, ?_⟩) ?_ ?_
                rotate_left
                ·intro w'
                 go_simp
                 with_reducible rfl
                rotate_left
                ·simp only [Act.put, List.setIfInBounds_toArray, List.set_cons_zero, List.set_cons_succ, i64_w, i32_w]
                 rfl
                refine pure_ (i := 3) (N := some 41) (v := ?_) (a' := ?_) #[Y,O,O,Y,O,O,O,O,O,O,O,O,O,O,O,O] rfl rfl (any_of HT_.out (by kernel_rfl)) (fun _ _ _ h => h) (Or.inl ⟨by rfl, ?_⟩) ?_ ?_
                rotate_left
                ·intro w'
                 go_simp
                 with_reducible rfl
                rotate_left
                ·simp only [Act.put, List.setIfInBounds_toArray, List.set_cons_zero, List.set_cons_succ, i64_w, i32_w]
                 rfl
                refine pure_ (i := 6) (N := some 44) (v := ?_) (a' := ?_) #[Y,O,O,Y,O,O,Y,O,O,O,O,O,O,O,O,O] rfl rfl (any_of HT_.out (by kernel_rfl)) (fun _ _ _ h => h) (Or.inl ⟨by rfl, ?_⟩) ?_ ?_
                rotate_left
                ·intro w'
                 go_simp
                 with_reducible rfl
                rotate_left
                ·simp only [Act.put, List.setIfInBounds_toArray, List.set_cons_zero, List.set_cons_succ, i64_w, i32_w]
                 rfl
                refine pure_ (i := 9) (N := some 47) (v := ?_) (a' := ?_) #[Y,O,O,Y,O,O,Y,O,O,Y,O,O,O,O,O,O] rfl rfl (any_of HT_.out (by kernel_rfl)) (fun _ _ _ h => h) (Or.inl ⟨by rfl, ?_⟩) ?_ ?_
                rotate_left
                ·intro w'
                 go_simp
                 with_reducible rfl
                rotate_left
                ·simp only [Act.put, List.setIfInBounds_toArray, List.set_cons_zero, List.set_cons_succ, i64_w, i32_w]
                 rfl
                refine pure_ (i := 10) (N := some 48) (v := ?_) (a' := ?_) #[Y,O,O,Y,O,O,Y,O,O,Y,Y,O,O,O,O,O] rfl rfl (any_of HT_.out (by kernel_rfl)) (fun _ _ _ h => h) (Or.inl ⟨by rfl, ?_⟩) ?_ ?_
                rotate_left
                ·intro w'
                 go_simp
                 with_reducible rfl
                rotate_left
                ·simp only [Act.put, List.setIfInBounds_toArray, List.set_cons_zero, List.set_cons_succ, i64_w, i32_w]
                 rfl
                refine pure_ (i := 11) (N := some 49) (v := ?_) (a' := ?_) #[Y,O,O,Y,O,O,Y,O,O,Y,Y,Y,O,O,O,O] rfl rfl (any_of HT_.out (by kernel_rfl)) (fun _ _ _ h => h) (Or.inl ⟨by rfl, ?_⟩) ?_ ?_
                rotate_left
                ·intro w'
                 go_simp
                 with_reducible rfl
                rotate_left
                ·simp only [Act.put, List.setIfInBounds_toArray, List.set_cons_zero, List.set_cons_succ, i64_w, i32_w]
                 rfl
                refine pure_ (i := 12) (N := some 50) (v := ?_) (a' := ?_) #[Y,O,O,Y,O,O,Y,O,O,Y,Y,Y,Y,O,O,O] rfl rfl (any_of HT_.out (by kernel_rfl)) (fun _ _ _ h => h) (Or.inl ⟨by rfl, ?_⟩) ?_ ?_
                rotate_left
                ·intro w'
                 go_simp
                 with_reducible rfl
                rotate_left
                ·simp only [Act.put, List.setIfInBounds_toArray, List.set_cons_zero, List.set_cons_succ, i64_w, i32_w]
                 rfl
                refine take_ (i := 1) (N := some 39) (v := ?_) (a' := ?_) #[Y,Y,O,Y,O,O,Y,O,O,Y,Y,Y,Y,O,O,O] rfl rfl (take_ofW HT_.out HW_.out (by kernel_rfl)) (fun _ _ _ h => h) (Or.inl ⟨by rfl, ?_⟩) hHeld ?_ ?_
                rotate_left
                ·intro w' _
                 go_simp
                 with_reducible rfl
                rotate_left
                ·simp only [Act.put, List.setIfInBounds_toArray, List.set_cons_zero, List.set_cons_succ, i64_w, i32_w]
                 rfl
                refine pure_ (i := 2) (N := some 40) (v := ?_) (a' := ?_) #[Y,Y,Y,Y,O,O,Y,O,O,Y,Y,Y,Y,O,O,O] rfl rfl (any_of HT_.out (by kernel_rfl)) (fun _ _ _ h => h) (Or.inl ⟨by rfl, ?_⟩) ?_ ?_
                rotate_left
                ·intro w'
                 go_simp
                 with_reducible rfl
                rotate_left
                ·simp only [Act.put, List.setIfInBounds_toArray, List.set_cons_zero, List.set_cons_succ, i64_w, i32_w]
                 rfl
                refine take_ (i := 4) (N := some 42) (v := ?_) (a' := ?_) #[Y,Y,Y,Y,Y,O,Y,O,O,Y,Y,Y,Y,O,O,O] rfl rfl (take_ofW HT_.out HW_.out (by kernel_rfl)) (fun _ _ _ h => h) (Or.inl ⟨by rfl, ?_⟩) hHeld ?_ ?_
                rotate_left
                ·intro w' _
                 go_simp
                 with_reducible rfl
                rotate_left
                ·simp only [Act.put, List.setIfInBounds_toArray, List.set_cons_zero, List.set_cons_succ, i64_w, i32_w]
                 rfl
                refine pure_ (i := 5) (N := some 43) (v := ?_) (a' := ?_) #[Y,Y,Y,Y,Y,Y,Y,O,O,Y,Y,Y,Y,O,O,O] rfl rfl (any_of HT_.out (by kernel_rfl)) (fun _ _ _ h => h) (Or.inl ⟨by rfl, ?_⟩) ?_ ?_
                rotate_left
                ·intro w'
                 go_simp
                 with_reducible rfl
                rotate_left
                ·simp only [Act.put, List.setIfInBounds_toArray, List.set_cons_zero, List.set_cons_succ, i64_w, i32_w]
                 rfl
                refine take_ (i := 7) (N := some 45) (v := ?_) (a' := ?_) #[Y,Y,Y,Y,Y,Y,Y,Y,O,Y,Y,Y,Y,O,O,O] rfl rfl (take_ofW HT_.out HW_.out (by kernel_rfl)) (fun _ _ _ h => h) (Or.inl ⟨by rfl, ?_⟩) hHeld ?_ ?_
                rotate_left
                ·intro w' _
                 go_simp
                 with_reducible rfl
                rotate_left
                ·simp only [Act.put, List.setIfInBounds_toArray, List.set_cons_zero, List.set_cons_succ, i64_w, i32_w]
                 rfl
                refine pure_ (i := 8) (N := some 46) (v := ?_) (a' := ?_) #[Y,Y,Y,Y,Y,Y,Y,Y,Y,Y,Y,Y,Y,O,O,O] rfl rfl (any_of HT_.out (by kernel_rfl)) (fun _ _ _ h => h) (Or.inl ⟨by rfl, ?_⟩) ?_ ?_
                rotate_left
                ·intro w'
                 go_simp
                 with_reducible rfl
                rotate_left
                ·simp only [Act.put, List.setIfInBounds_toArray, List.set_cons_zero, List.set_cons_succ, i64_w, i32_w]
                 rfl
                refine pure_ (i := 13) (N := some 51) (v := ?_) (a' := ?_) #[Y,Y,Y,Y,Y,Y,Y,Y,Y,Y,Y,Y,Y,Y,O,O] rfl rfl (any_of HT_.out (by kernel_rfl)) (fun _ _ _ h => h) (Or.inl ⟨by rfl, ?_⟩) ?_ ?_
                rotate_left
                ·intro w'
                 go_simp
                 with_reducible rfl
                rotate_left
                ·simp only [Act.put, List.setIfInBounds_toArray, List.set_cons_zero, List.set_cons_succ, i64_w, i32_w]
                 rfl
                refine one_ (i := 14) (N := some 8) #[Y,Y,Y,Y,Y,Y,Y,Y,Y,Y,Y,Y,Y,Y,Y,O] rfl rfl (one_of HT_.out (by kernel_rfl)) (by decide) (fun K hK => ?_)
                refine box_step ?hg (N := 8) ?hd (cs := #[.int .i64 0, .int .i64 0, .int .i64 0, .string (⟨#[]⟩ : ByteArray)]) (t := 27) ?hr ?_; (case hd => rfl); (case hg => rfl); (case hr => first | (go_simp; done) | (go_simp; rfl))
                intro gb144 hg w59 hbox hb
                have n0_ := Aside0.mk (blk_below (g := gb143) (o := .cells #[.int .i64 0, .int .i64 0, .int .i64 0, .string (⟨#[]⟩ : ByteArray)] 27 (0, 0)) (by (with_reducible repeat (first | refine blk_drewN ?_ _ | refine blk_drew ?_ | refine blk_alloc ?_ _)); exact BK143.out) hb)
                have n1_ := Aside0.mk (below_step (by repeat (first | (with_reducible first | exact HB.out | apply below_alloc | apply pw_below_drewN | apply below_drew1 | refine below_set ?_ GE143.out) | exact HB.out)) hb)
                have n2_ := Aside0.mk (hbox)
                have n3_ := Aside0.mk ((by rw [hg]; exact (below_size (by repeat (first | (with_reducible first | exact HB.out | apply below_alloc | apply pw_below_drewN | apply below_drew1 | refine below_set ?_ GE143.out) | exact HB.out))) : w.heap.size ≤ gb144))
                have n4_ := Aside0.mk ((by rw [hg]; exact (below_size (by repeat (first | (with_reducible first | exact HB.out | apply below_alloc | apply pw_below_drewN | apply below_drew1 | refine below_set ?_ GE143.out) | exact HB.out))) : w.heap.size ≤ gb144))
                have n5_ := Aside0.mk ((by rw [hg]; exact Nat.ne_of_lt (blk_lt (g := gb143) (o := .cells #[.int .i64 0, .int .i64 0, .int .i64 0, .string (⟨#[]⟩ : ByteArray)] 27 (0, 0)) (by (with_reducible repeat (first | refine blk_drewN ?_ _ | refine blk_drew ?_ | refine blk_alloc ?_ _)); exact BK143.out)) : gb143 ≠ gb144))
                have n6_ := Aside0.mk ((by rw [hg]; exact Nat.ne_of_gt (blk_lt (g := gb143) (o := .cells #[.int .i64 0, .int .i64 0, .int .i64 0, .string (⟨#[]⟩ : ByteArray)] 27 (0, 0)) (by (with_reducible repeat (first | refine blk_drewN ?_ _ | refine blk_drew ?_ | refine blk_alloc ?_ _)); exact BK143.out)) : gb144 ≠ gb143))
                clear BK143
                clear HB
                have BK143 := n0_
                have HB := n1_
                have BK144 := n2_
                have GW144 := n3_
                have GE144 := n4_
                have NB143_144 := n5_
                have NB144_143 := n6_
                clear n0_ n1_ n2_ n3_ n4_ n5_ n6_
                clear hb hbox hg
                refine hK.out _ _ trivial (fun hHeld => ?_)
                clear hK K
                refine norm_ (a' := ?_) ?_ ?_
                rotate_left
                ·show Act.put _ (some 8) _ = _
                 simp only [Act.put, List.setIfInBounds_toArray, List.set_cons_zero, List.set_cons_succ, i64_w, i32_w]
                 rfl
                refine one_ (i := 15) (N := none) #[Y,Y,Y,Y,Y,Y,Y,Y,Y,Y,Y,Y,Y,Y,Y,Y] rfl rfl (one_of HT_.out (by kernel_rfl)) (by decide) (fun K hK => ?_)
                have hs60 : w59.cell? ⟨gb144, 0, none⟩ = some (.int .i64 0) := (blk_cell BK144.out 0).trans rfl
                have hfs60 := blk_frozen BK144.out 0
                have hns60_0 := NB143_144.out
                have hms60_0 := NB144_143.out
                have hs61 : w59.cell? ⟨gb144, 1, none⟩ = some (.int .i64 0) := (blk_cell BK144.out 1).trans rfl
                have hfs61 := blk_frozen BK144.out 1
                have hns61_0 := NB143_144.out
                have hms61_0 := NB144_143.out
                have hs62 : w59.cell? ⟨gb144, 2, none⟩ = some (.int .i64 0) := (blk_cell BK144.out 2).trans rfl
                have hfs62 := blk_frozen BK144.out 2
                have hns62_0 := NB143_144.out
                have hms62_0 := NB144_143.out
                have hs63 : w59.cell? ⟨gb144, 3, none⟩ = some (.string (⟨#[]⟩ : ByteArray)) := (blk_cell BK144.out 3).trans rfl
                have hfs63 := blk_frozen BK144.out 3
                have hns63_0 := NB143_144.out
                have hms63_0 := NB144_143.out
                refine skip_ (w1 := ?_) (by rfl) rfl ?_ ?_
                rotate_left
                ·go_simp
                 rfl
                refine hK.out _ _ trivial (fun hHeld => ?_)
                clear hK K
                refine done_ (done_of HT_.out (by kernel_rfl)) ?_
                try go_wp2
                have n0_ : Aside0 (((((w59.setCell ⟨gb144, 0, none⟩ (.int .i64 (wrap64 (bt (a0.extract ((ji14) : Int).toNat ((wrap64 ((ji14) + (wrap64 (bt a0 a1)))) : Int).toNat) 0)))).setCell ⟨gb144, 1, none⟩ (.int .i64 (wrap64 (bt (a0.extract ((ji14) : Int).toNat ((wrap64 ((ji14) + (wrap64 (bt a0 a1)))) : Int).toNat) 1)))).setCell ⟨gb144, 2, none⟩ (.int .i64 (wrap64 (bt (a0.extract ((ji14) : Int).toNat ((wrap64 ((ji14) + (wrap64 (bt a0 a1)))) : Int).toNat) 2)))).setCell ⟨gb144, 3, none⟩ (.string ((a0.extract ((ji14) : Int).toNat ((wrap64 ((ji14) + (wrap64 (bt a0 a1)))) : Int).toNat).extract 3 ((wrap64 ((wrap64 (bt a0 a1)) - 2)) : Int).toNat))).heap[gb143]? = some (.cells #[.int .i64 0, .int .i64 0, .int .i64 0, .string (⟨#[]⟩ : ByteArray)] 27 (0, 0))) := ⟨by (with_reducible repeat (first | refine blk_drewN ?_ _ | refine blk_drew ?_ | refine blk_alloc ?_ _)); refine blk_far ?_ NB143_144.out _; (with_reducible repeat (first | refine blk_drewN ?_ _ | refine blk_drew ?_ | refine blk_alloc ?_ _)); refine blk_far ?_ NB143_144.out _; (with_reducible repeat (first | refine blk_drewN ?_ _ | refine blk_drew ?_ | refine blk_alloc ?_ _)); refine blk_far ?_ NB143_144.out _; (with_reducible repeat (first | refine blk_drewN ?_ _ | refine blk_drew ?_ | refine blk_alloc ?_ _)); refine blk_far ?_ NB143_144.out _; (with_reducible repeat (first | refine blk_drewN ?_ _ | refine blk_drew ?_ | refine blk_alloc ?_ _)); exact BK143.out⟩
                have n1_ : Aside0 (((((w59.setCell ⟨gb144, 0, none⟩ (.int .i64 (wrap64 (bt (a0.extract ((ji14) : Int).toNat ((wrap64 ((ji14) + (wrap64 (bt a0 a1)))) : Int).toNat) 0)))).setCell ⟨gb144, 1, none⟩ (.int .i64 (wrap64 (bt (a0.extract ((ji14) : Int).toNat ((wrap64 ((ji14) + (wrap64 (bt a0 a1)))) : Int).toNat) 1)))).setCell ⟨gb144, 2, none⟩ (.int .i64 (wrap64 (bt (a0.extract ((ji14) : Int).toNat ((wrap64 ((ji14) + (wrap64 (bt a0 a1)))) : Int).toNat) 2)))).setCell ⟨gb144, 3, none⟩ (.string ((a0.extract ((ji14) : Int).toNat ((wrap64 ((ji14) + (wrap64 (bt a0 a1)))) : Int).toNat).extract 3 ((wrap64 ((wrap64 (bt a0 a1)) - 2)) : Int).toNat))).heap[gb144]? = some (.cells #[.int .i64 (wrap64 (bt (a0.extract ((ji14) : Int).toNat ((wrap64 ((ji14) + (wrap64 (bt a0 a1)))) : Int).toNat) 0)), .int .i64 (wrap64 (bt (a0.extract ((ji14) : Int).toNat ((wrap64 ((ji14) + (wrap64 (bt a0 a1)))) : Int).toNat) 1)), .int .i64 (wrap64 (bt (a0.extract ((ji14) : Int).toNat ((wrap64 ((ji14) + (wrap64 (bt a0 a1)))) : Int).toNat) 2)), .string ((a0.extract ((ji14) : Int).toNat ((wrap64 ((ji14) + (wrap64 (bt a0 a1)))) : Int).toNat).extract 3 ((wrap64 ((wrap64 (bt a0 a1)) - 2)) : Int).toNat)] 27 (0, 0))) := ⟨by (with_reducible repeat (first | refine blk_drewN ?_ _ | refine blk_drew ?_ | refine blk_alloc ?_ _)); refine blk_put (cs := #[.int .i64 (wrap64 (bt (a0.extract ((ji14) : Int).toNat ((wrap64 ((ji14) + (wrap64 (bt a0 a1)))) : Int).toNat) 0)), .int .i64 (wrap64 (bt (a0.extract ((ji14) : Int).toNat ((wrap64 ((ji14) + (wrap64 (bt a0 a1)))) : Int).toNat) 1)), .int .i64 (wrap64 (bt (a0.extract ((ji14) : Int).toNat ((wrap64 ((ji14) + (wrap64 (bt a0 a1)))) : Int).toNat) 2)), .string (⟨#[]⟩ : ByteArray)]) ?_ 3 _ rfl; (with_reducible repeat (first | refine blk_drewN ?_ _ | refine blk_drew ?_ | refine blk_alloc ?_ _)); refine blk_put (cs := #[.int .i64 (wrap64 (bt (a0.extract ((ji14) : Int).toNat ((wrap64 ((ji14) + (wrap64 (bt a0 a1)))) : Int).toNat) 0)), .int .i64 (wrap64 (bt (a0.extract ((ji14) : Int).toNat ((wrap64 ((ji14) + (wrap64 (bt a0 a1)))) : Int).toNat) 1)), .int .i64 0, .string (⟨#[]⟩ : ByteArray)]) ?_ 2 _ rfl; (with_reducible repeat (first | refine blk_drewN ?_ _ | refine blk_drew ?_ | refine blk_alloc ?_ _)); refine blk_put (cs := #[.int .i64 (wrap64 (bt (a0.extract ((ji14) : Int).toNat ((wrap64 ((ji14) + (wrap64 (bt a0 a1)))) : Int).toNat) 0)), .int .i64 0, .int .i64 0, .string (⟨#[]⟩ : ByteArray)]) ?_ 1 _ rfl; (with_reducible repeat (first | refine blk_drewN ?_ _ | refine blk_drew ?_ | refine blk_alloc ?_ _)); refine blk_put (cs := #[.int .i64 0, .int .i64 0, .int .i64 0, .string (⟨#[]⟩ : ByteArray)]) ?_ 0 _ rfl; (with_reducible repeat (first | refine blk_drewN ?_ _ | refine blk_drew ?_ | refine blk_alloc ?_ _)); exact BK144.out⟩
                have n2_ : Aside0 (Below w.heap.size w ((((w59.setCell ⟨gb144, 0, none⟩ (.int .i64 (wrap64 (bt (a0.extract ((ji14) : Int).toNat ((wrap64 ((ji14) + (wrap64 (bt a0 a1)))) : Int).toNat) 0)))).setCell ⟨gb144, 1, none⟩ (.int .i64 (wrap64 (bt (a0.extract ((ji14) : Int).toNat ((wrap64 ((ji14) + (wrap64 (bt a0 a1)))) : Int).toNat) 1)))).setCell ⟨gb144, 2, none⟩ (.int .i64 (wrap64 (bt (a0.extract ((ji14) : Int).toNat ((wrap64 ((ji14) + (wrap64 (bt a0 a1)))) : Int).toNat) 2)))).setCell ⟨gb144, 3, none⟩ (.string ((a0.extract ((ji14) : Int).toNat ((wrap64 ((ji14) + (wrap64 (bt a0 a1)))) : Int).toNat).extract 3 ((wrap64 ((wrap64 (bt a0 a1)) - 2)) : Int).toNat)))) := ⟨by repeat (first | (with_reducible first | exact HB.out | apply below_alloc | apply pw_below_drewN | apply below_drew1 | refine below_set ?_ GE143.out | refine below_set ?_ GE144.out) | exact HB.out)⟩
                (try clear BK143)
                (try clear BK144)
                (try clear HB)
                generalize ((((w59.setCell ⟨gb144, 0, none⟩ (.int .i64 (wrap64 (bt (a0.extract ((ji14) : Int).toNat ((wrap64 ((ji14) + (wrap64 (bt a0 a1)))) : Int).toNat) 0)))).setCell ⟨gb144, 1, none⟩ (.int .i64 (wrap64 (bt (a0.extract ((ji14) : Int).toNat ((wrap64 ((ji14) + (wrap64 (bt a0 a1)))) : Int).toNat) 1)))).setCell ⟨gb144, 2, none⟩ (.int .i64 (wrap64 (bt (a0.extract ((ji14) : Int).toNat ((wrap64 ((ji14) + (wrap64 (bt a0 a1)))) : Int).toNat) 2)))).setCell ⟨gb144, 3, none⟩ (.string ((a0.extract ((ji14) : Int).toNat ((wrap64 ((ji14) + (wrap64 (bt a0 a1)))) : Int).toNat).extract 3 ((wrap64 ((wrap64 (bt a0 a1)) - 2)) : Int).toNat))) = w64 at n0_ n1_ n2_ ⊢
                have BK143 := n0_
                have BK144 := n1_
                have HB := n2_
                clear n0_ n1_ n2_
                have n0_ := Aside0.mk (blk_drew BK143.out)
                have n1_ := Aside0.mk (blk_drew BK144.out)
                have n2_ := Aside0.mk (below_drew1 HB.out)
                clear BK143
                clear BK144
                clear HB
                have BK143 := n0_
                have BK144 := n1_
                have HB := n2_
                clear n0_ n1_ n2_
                refine start_ (n := 15) (S := fun w' => w'.cell? ⟨gb144, 0, none⟩ = some (.int .i64 (wrap64 (bt (a0.extract ((ji14) : Int).toNat ((wrap64 ((ji14) + (wrap64 (bt a0 a1)))) : Int).toNat) 0))) ∧ w'.cell? ⟨gb144, 1, none⟩ = some (.int .i64 (wrap64 (bt (a0.extract ((ji14) : Int).toNat ((wrap64 ((ji14) + (wrap64 (bt a0 a1)))) : Int).toNat) 1))) ∧ w'.cell? ⟨gb144, 2, none⟩ = some (.int .i64 (wrap64 (bt (a0.extract ((ji14) : Int).toNat ((wrap64 ((ji14) + (wrap64 (bt a0 a1)))) : Int).toNat) 2))) ∧ w'.cell? ⟨gb144, 3, none⟩ = some (.string ((a0.extract ((ji14) : Int).toNat ((wrap64 ((ji14) + (wrap64 (bt a0 a1)))) : Int).toNat).extract 3 ((wrap64 ((wrap64 (bt a0 a1)) - 2)) : Int).toNat))) (ds := []) #[O,O,O,O,O,O,O,O,O,O,O,O,O,O,O] (by kernel_rfl) rfl rfl ⟨(blk_cell BK144.out 0).trans rfl, (blk_cell BK144.out 1).trans rfl, (blk_cell BK144.out 2).trans rfl, (blk_cell BK144.out 3).trans rfl⟩ (fun hHeld => ?_); refine with_tabW spec_l3Read.tab8 spec_l3Read.bits8 (fun HT_ HW_ => ?_)
                generalize w64.drew = w65 at BK143 BK144 HB hHeld ⊢
                refine take_ (i := 0) (N := some 52) (v := ?_) (a' := ?_) #[Y,O,O,O,O,O,O,O,O,O,O,O,O,O,O] rfl rfl (take_ofW HT_.out HW_.out (by kernel_rfl)) (fun _ _ _ h => h) (Or.inl ⟨by rfl, ?_⟩) hHeld ?_ ?_
                rotate_left
                ·rintro w' ⟨s0, s1, s2, s3⟩
                 go_simp
                 with_reducible rfl
                rotate_left
                ·simp only [Act.put, List.setIfInBounds_toArray, List.set_cons_zero, List.set_cons_succ, i64_w, i32_w]
                 rfl
                refine one_ (i := 1) (N := some 53) #[Y,Y,O,O,O,O,O,O,O,O,O,O,O,O,O] rfl rfl (one_of HT_.out (by kernel_rfl)) (by decide) (fun K hK => ?_)
                refine goes_ Try.func46 (by kernel_rfl) rfl #[.agg #[.int .i64 (wrap64 (bt (a0.extract ((ji14) : Int).toNat ((wrap64 ((ji14) + (wrap64 (bt a0 a1)))) : Int).toNat) 0)), .int .i64 (wrap64 (bt (a0.extract ((ji14) : Int).toNat ((wrap64 ((ji14) + (wrap64 (bt a0 a1)))) : Int).toNat) 1)), .int .i64 (wrap64 (bt (a0.extract ((ji14) : Int).toNat ((wrap64 ((ji14) + (wrap64 (bt a0 a1)))) : Int).toNat) 2)), .string ((a0.extract ((ji14) : Int).toNat ((wrap64 ((ji14) + (wrap64 (bt a0 a1)))) : Int).toNat).extract 3 ((wrap64 ((wrap64 (bt a0 a1)) - 2)) : Int).toNat)]] (by rfl) rfl rfl (by (try simp only [List.map_toArray, List.map_cons, List.map_nil]); first | done | (simp only [hji14]; rfl) | rfl | (simp only [List.length_drop, List.length_take]; rfl)) ?_
                with_reducible refine (spec_GoodRecord.calls (wrap64 (bt (a0.extract ((ji14) : Int).toNat ((wrap64 ((ji14) + (wrap64 (bt a0 a1)))) : Int).toNat) 0)) (wrap64 (bt (a0.extract ((ji14) : Int).toNat ((wrap64 ((ji14) + (wrap64 (bt a0 a1)))) : Int).toNat) 1)) (wrap64 (bt (a0.extract ((ji14) : Int).toNat ((wrap64 ((ji14) + (wrap64 (bt a0 a1)))) : Int).toNat) 2)) ((a0.extract ((ji14) : Int).toNat ((wrap64 ((ji14) + (wrap64 (bt a0 a1)))) : Int).toNat).extract 3 ((wrap64 ((wrap64 (bt a0 a1)) - 2)) : Int).toNat) false _ A26.out).mono ?_
                rintro e w66 ⟨rfl, hb⟩
                refine ⟨_, rfl, ?_⟩
                have n0_ := Aside0.mk (blk_below (g := gb143) (o := .cells #[.int .i64 0, .int .i64 0, .int .i64 0, .string (⟨#[]⟩ : ByteArray)] 27 (0, 0)) (by (with_reducible repeat (first | refine blk_drewN ?_ _ | refine blk_drew ?_ | refine blk_alloc ?_ _)); exact BK143.out) hb)
                have n1_ := Aside0.mk (blk_below (g := gb144) (o := .cells #[.int .i64 (wrap64 (bt (a0.extract ((ji14) : Int).toNat ((wrap64 ((ji14) + (wrap64 (bt a0 a1)))) : Int).toNat) 0)), .int .i64 (wrap64 (bt (a0.extract ((ji14) : Int).toNat ((wrap64 ((ji14) + (wrap64 (bt a0 a1)))) : Int).toNat) 1)), .int .i64 (wrap64 (bt (a0.extract ((ji14) : Int).toNat ((wrap64 ((ji14) + (wrap64 (bt a0 a1)))) : Int).toNat) 2)), .string ((a0.extract ((ji14) : Int).toNat ((wrap64 ((ji14) + (wrap64 (bt a0 a1)))) : Int).toNat).extract 3 ((wrap64 ((wrap64 (bt a0 a1)) - 2)) : Int).toNat)] 27 (0, 0)) (by (with_reducible repeat (first | refine blk_drewN ?_ _ | refine blk_drew ?_ | refine blk_alloc ?_ _)); exact BK144.out) hb)
                have n2_ := Aside0.mk (below_step (by repeat (first | (with_reducible first | exact HB.out | apply below_alloc | apply pw_below_drewN | apply below_drew1 | refine below_set ?_ GE143.out | refine below_set ?_ GE144.out) | exact HB.out)) hb)
                clear BK143
                clear BK144
                clear HB
                have BK143 := n0_
                have BK144 := n1_
                have HB := n2_
                clear n0_ n1_ n2_
                (try clear hb)
                (try clear hb2)
                (try clear hk)
                (try clear hi)
                refine hK.out _ _ ⟨(blk_cell BK144.out 0).trans rfl, (blk_cell BK144.out 1).trans rfl, (blk_cell BK144.out 2).trans rfl, (blk_cell BK144.out 3).trans rfl⟩ (fun hHeld => ?_)
                clear hK K
                refine norm_ (a' := ?_) ?_ ?_
                rotate_left
                ·show Act.put _ (some 53) _ = _
                 simp only [Act.put, List.setIfInBounds_toArray, List.set_cons_zero, List.set_cons_succ, i64_w, i32_w]
                 rfl
                refine pure_ (i := 2) (N := some 54) (v := ?_) (a' := ?_) #[Y,Y,Y,O,O,O,O,O,O,O,O,O,O,O,O] rfl rfl (any_of HT_.out (by kernel_rfl)) (fun _ _ _ h => h) (Or.inl ⟨by rfl, ?_⟩) ?_ ?_
                rotate_left
                ·intro w'
                 go_simp
                 with_reducible rfl
                rotate_left
                ·simp only [Act.put, List.setIfInBounds_toArray, List.set_cons_zero, List.set_cons_succ, i64_w, i32_w]
                 rfl
                refine pure_ (i := 3) (N := some 55) (v := ?_) (a' := ?_) #[Y,Y,Y,Y,O,O,O,O,O,O,O,O,O,O,O] rfl rfl (any_of HT_.out (by kernel_rfl)) (fun _ _ _ h => h) (Or.inl ⟨by rfl, ?_⟩) ?_ ?_
                rotate_left
                ·intro w'
                 go_simp
                 with_reducible rfl
                rotate_left
                ·simp only [Act.put, List.setIfInBounds_toArray, List.set_cons_zero, List.set_cons_succ, i64_w, i32_w]
                 rfl
                refine pure_ (i := 4) (N := some 56) (v := undef) (a' := ?_) #[Y,Y,Y,Y,Y,O,O,O,O,O,O,O,O,O,O] rfl rfl (any_of HT_.out (by kernel_rfl)) (fun _ _ _ h => h) (Or.inr ⟨by rfl, rfl⟩) ?_ ?_
                rotate_left
                ·simp only [Act.put, List.setIfInBounds_toArray, List.set_cons_zero, List.set_cons_succ, i64_w, i32_w]
                 rfl
                refine pure_ (i := 5) (N := some 57) (v := undef) (a' := ?_) #[Y,Y,Y,Y,Y,Y,O,O,O,O,O,O,O,O,O] rfl rfl (any_of HT_.out (by kernel_rfl)) (fun _ _ _ h => h) (Or.inr ⟨by rfl, rfl⟩) ?_ ?_
                rotate_left
                ·simp only [Act.put, List.setIfInBounds_toArray, List.set_cons_zero, List.set_cons_succ, i64_w, i32_w]
                 rfl
                refine pure_ (i := 6) (N := some 58) (v := undef) (a' := ?_) #[Y,Y,Y,Y,Y,Y,Y,O,O,O,O,O,O,O,O] rfl rfl (any_of HT_.out (by kernel_rfl)) (fun _ _ _ h => h) (Or.inr ⟨by rfl, rfl⟩) ?_ ?_
                rotate_left
                ·simp only [Act.put, List.setIfInBounds_toArray, List.set_cons_zero, List.set_cons_succ, i64_w, i32_w]
                 rfl
                refine pure_ (i := 7) (N := some 59) (v := undef) (a' := ?_) #[Y,Y,Y,Y,Y,Y,Y,Y,O,O,O,O,O,O,O] rfl rfl (any_of HT_.out (by kernel_rfl)) (fun _ _ _ h => h) (Or.inr ⟨by rfl, rfl⟩) ?_ ?_
                rotate_left
                ·simp only [Act.put, List.setIfInBounds_toArray, List.set_cons_zero, List.set_cons_succ, i64_w, i32_w]
                 rfl
                refine pure_ (i := 8) (N := some 60) (v := undef) (a' := ?_) #[Y,Y,Y,Y,Y,Y,Y,Y,Y,O,O,O,O,O,O] rfl rfl (any_of HT_.out (by kernel_rfl)) (fun _ _ _ h => h) (Or.inr ⟨by rfl, rfl⟩) ?_ ?_
                rotate_left
                ·simp only [Act.put, List.setIfInBounds_toArray, List.set_cons_zero, List.set_cons_succ, i64_w, i32_w]
                 rfl
                refine pure_ (i := 9) (N := some 61) (v := undef) (a' := ?_) #[Y,Y,Y,Y,Y,Y,Y,Y,Y,Y,O,O,O,O,O] rfl rfl (any_of HT_.out (by kernel_rfl)) (fun _ _ _ h => h) (Or.inr ⟨by rfl, rfl⟩) ?_ ?_
                rotate_left
                ·simp only [Act.put, List.setIfInBounds_toArray, List.set_cons_zero, List.set_cons_succ, i64_w, i32_w]
                 rfl
                refine pure_ (i := 10) (N := some 62) (v := undef) (a' := ?_) #[Y,Y,Y,Y,Y,Y,Y,Y,Y,Y,Y,O,O,O,O] rfl rfl (any_of HT_.out (by kernel_rfl)) (fun _ _ _ h => h) (Or.inr ⟨by rfl, rfl⟩) ?_ ?_
                rotate_left
                ·simp only [Act.put, List.setIfInBounds_toArray, List.set_cons_zero, List.set_cons_succ, i64_w, i32_w]
                 rfl
                refine pure_ (i := 11) (N := some 63) (v := undef) (a' := ?_) #[Y,Y,Y,Y,Y,Y,Y,Y,Y,Y,Y,Y,O,O,O] rfl rfl (any_of HT_.out (by kernel_rfl)) (fun _ _ _ h => h) (Or.inr ⟨by rfl, rfl⟩) ?_ ?_
                rotate_left
                ·simp only [Act.put, List.setIfInBounds_toArray, List.set_cons_zero, List.set_cons_succ, i64_w, i32_w]
                 rfl
                refine pure_ (i := 12) (N := some 64) (v := undef) (a' := ?_) #[Y,Y,Y,Y,Y,Y,Y,Y,Y,Y,Y,Y,Y,O,O] rfl rfl (any_of HT_.out (by kernel_rfl)) (fun _ _ _ h => h) (Or.inr ⟨by rfl, rfl⟩) ?_ ?_
                rotate_left
                ·simp only [Act.put, List.setIfInBounds_toArray, List.set_cons_zero, List.set_cons_succ, i64_w, i32_w]
                 rfl
                refine pure_ (i := 13) (N := some 65) (v := undef) (a' := ?_) #[Y,Y,Y,Y,Y,Y,Y,Y,Y,Y,Y,Y,Y,Y,O] rfl rfl (any_of HT_.out (by kernel_rfl)) (fun _ _ _ h => h) (Or.inr ⟨by rfl, rfl⟩) ?_ ?_
                rotate_left
                ·simp only [Act.put, List.setIfInBounds_toArray, List.set_cons_zero, List.set_cons_succ, i64_w, i32_w]
                 rfl
                refine pure_ (i := 14) (N := some 66) (v := ?_) (a' := ?_) #[Y,Y,Y,Y,Y,Y,Y,Y,Y,Y,Y,Y,Y,Y,Y] rfl rfl (any_of HT_.out (by kernel_rfl)) (fun _ _ _ h => h) (Or.inl ⟨by rfl, ?_⟩) ?_ ?_
                rotate_left
                ·intro w'
                 go_simp
                 with_reducible rfl
                rotate_left
                ·simp only [Act.put, List.setIfInBounds_toArray, List.set_cons_zero, List.set_cons_succ, i64_w, i32_w]
                 rfl
                refine done_ (done_of HT_.out (by kernel_rfl)) ?_
                have hnb67 := NB143_144.out
                have hnc67 := NB144_143.out
                have hcz68_0 : w66.cell? ⟨gb143, 0, none⟩ = some (.int .i64 0) := (blk_cell BK143.out 0).trans rfl
                have hcz68_1 : w66.cell? ⟨gb143, 1, none⟩ = some (.int .i64 0) := (blk_cell BK143.out 1).trans rfl
                have hcz68_2 : w66.cell? ⟨gb143, 2, none⟩ = some (.int .i64 0) := (blk_cell BK143.out 2).trans rfl
                have hcz68_3 : w66.cell? ⟨gb143, 3, none⟩ = some (.string (⟨#[]⟩ : ByteArray)) := (blk_cell BK143.out 3).trans rfl
                have hfz68_0 := blk_frozen BK143.out 0
                have hfz68_1 := blk_frozen BK143.out 1
                have hfz68_2 := blk_frozen BK143.out 2
                have hfz68_3 := blk_frozen BK143.out 3
                try go_wp2
                refine bodyPost_ret (results_ct rfl _ _ gb143 27 #[.int .i64 0, .int .i64 0, .int .i64 0, .string (⟨#[]⟩ : ByteArray)] (0, 0) _ rfl (by (with_reducible repeat (first | refine blk_drewN ?_ _ | refine blk_drew ?_ | refine blk_alloc ?_ _)); refine blk_put (cs := #[.int .i64 0, .int .i64 0, .int .i64 0, .string (⟨#[]⟩ : ByteArray)]) ?_ 3 _ rfl; (with_reducible repeat (first | refine blk_drewN ?_ _ | refine blk_drew ?_ | refine blk_alloc ?_ _)); refine blk_put (cs := #[.int .i64 0, .int .i64 0, .int .i64 0, .string (⟨#[]⟩ : ByteArray)]) ?_ 2 _ rfl; (with_reducible repeat (first | refine blk_drewN ?_ _ | refine blk_drew ?_ | refine blk_alloc ?_ _)); refine blk_put (cs := #[.int .i64 0, .int .i64 0, .int .i64 0, .string (⟨#[]⟩ : ByteArray)]) ?_ 1 _ rfl; (with_reducible repeat (first | refine blk_drewN ?_ _ | refine blk_drew ?_ | refine blk_alloc ?_ _)); refine blk_put (cs := #[.int .i64 0, .int .i64 0, .int .i64 0, .string (⟨#[]⟩ : ByteArray)]) ?_ 0 _ rfl; (with_reducible repeat (first | refine blk_drewN ?_ _ | refine blk_drew ?_ | refine blk_alloc ?_ _)); exact BK143.out) Try.underlying27 rfl (by kernel_rfl)) rfl ?_
                exact ⟨by first | rfl | (simp [errW_none, errW_some] <;> rfl) | (simp only [← hji14]; first | rfl | (simp [errW_none, errW_some] <;> rfl)) | (simp [*, errW_none, errW_some] <;> rfl), by repeat (first | (with_reducible first | exact HB.out | apply below_alloc | apply pw_below_drewN | apply below_drew1 | refine below_set ?_ GE143.out | refine below_set ?_ GE144.out) | exact HB.out)⟩
              ·rw [if_neg c25] at H
               exact absurd H (by simp)
             ·rw [if_neg c24] at H
              exact absurd H (by simp)
            ·rw [if_neg c22] at H
             exact absurd H (by simp)
           ·rw [if_neg c20] at H
            exact absurd H (by simp)
          ·rw [if_neg c18] at H
           exact absurd H (by simp)
         ·rw [if_neg c17] at H
          exact absurd H (by simp)
        ·rw [if_neg c16] at H
         exact absurd H (by simp)
       ·rw [if_neg c15] at H
        exact absurd H (by simp)
   ·rw [if_neg c7] at H
    exact absurd H (by simp)
  ·rw [if_neg c6] at H
   exact absurd H (by simp)

end Go.Proofs.Ytjpeedbabjaidaa.PR

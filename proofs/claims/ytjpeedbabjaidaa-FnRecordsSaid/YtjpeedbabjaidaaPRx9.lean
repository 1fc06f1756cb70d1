-- Written by a program of this session (wip/xprint.py over the kit's printer), out of the translation; the texts of functions that the printer does not take are this session's own.
import Derived.Test.YtjpeedbabjaidaaPRx0
import Derived.Test.YtjpeedbabjaidaaPRx8
namespace Go.Proofs.Ytjpeedbabjaidaa.PR
open Go.RowKit Go.Proofs.YtjpeedbabjaidaaW.PrintWords Go.Proofs.YtjpeedbabjaidaaW.PrintLast Go.Proofs.YtjpeedbabjaidaaW.PrintMore
attribute [local go_sem] max2_int min2_int max_two min_two max_three min_three max_four min_four   -- for this text's walks alone
set_option linter.unusedVariables false
set_option linter.unusedSimpArgs false

/-! ### spec_l1Cur_record: function 85 -/
mutual
def spec_l1Cur_record.j1 : Nat → List Int → Int → Int → Int → Int → Int → ByteArray → Option (Int × Int × Int × ByteArray × Int × Int)
 | 0, _, _, _, _, _, _, _ => none
 | k + 1, x1000, x1001, x1002, x244000, x244001, x244002, x244003 => (spec_l1Cur_pick.f x1000 x1001 x1002 60).bind fun bt253 => (if bt253.1 = 0 then ((spec_l1Cur_among.f x1000 bt253.2.1 bt253.2.2 (([(-1), 15, 200, 201] : List Int))).bind fun bt259 => (some (x244000, bt259.1, x244002, x244003, bt259.2.1, bt259.2.2))) else (if bt253.1 = 1 then ((spec_l1Cur_pick.f x1000 bt253.2.1 bt253.2.2 6).bind fun bt262 => (some (bt262.1, x244001, x244002, x244003, bt262.2.1, bt262.2.2))) else (if bt253.1 = 2 then (if x244003.size + 1 ≤ 9223372036854775807 then (some (x244000, x244001, x244002, x244003 ++ (⟨#[120]⟩ : ByteArray), bt253.2.1, bt253.2.2)) else (none)) else (some (x244000, x244001, x244002, x244003, bt253.2.1, bt253.2.2)))))
def spec_l1Cur_record.l0 : Nat → Int → List Int → Int → Int → Int → Int → Int → ByteArray → Option (Int × Int × Int × ByteArray × Int × Int)
 | 0, _, _, _, _, _, _, _, _ => none
 | k + 1, x4, x1000, x1001, x1002, x244000, x244001, x244002, x244003 => if x4 < x244002 then ((spec_l1Cur_pick.f x1000 x1001 x1002 5).bind fun bt244 => ((spec_l1Cur_pick.f x1000 bt244.2.1 bt244.2.2 5).bind fun bt247 => ((some (([(wrap64 (97 + bt244.1)) % 256, (wrap64 (97 + bt247.1)) % 256] : List Int) : List Int)).bind fun y250 => (if x244003.size + (strOfNums y250).size ≤ 9223372036854775807 then (spec_l1Cur_record.l0 k (wrap64 (x4 + 1)) x1000 bt247.2.1 bt247.2.2 x244000 x244001 x244002 (x244003 ++ (strOfNums y250))) else (none))))) else (spec_l1Cur_record.j1 k x1000 x1001 x1002 x244000 x244001 x244002 x244003)
end
def spec_l1Cur_record.f (k : Nat) (s0_0 : List Int) (s0_1 : Int) (s0_2 : Int) : Option (Int × Int × Int × ByteArray × Int × Int) := (spec_l1Cur_among.f s0_0 s0_1 s0_2 (([1, 1, 1, 2, 3] : List Int))).bind fun bt234 => ((spec_l1Cur_pick.f s0_0 bt234.2.1 bt234.2.2 13).bind fun bt237 => ((spec_l1Cur_pick.f s0_0 bt237.2.1 bt237.2.2 4).bind fun bt240 => (if bt234.1 = 1 then (spec_l1Cur_record.l0 k 0 s0_0 bt240.2.1 bt240.2.2 bt234.1 bt237.1 (wrap64 (1 + bt240.1)) (⟨#[]⟩ : ByteArray)) else (if bt234.1 = 3 then (spec_l1Cur_record.j1 k s0_0 bt240.2.1 bt240.2.2 bt234.1 bt237.1 0 (⟨#[]⟩ : ByteArray)) else (spec_l1Cur_record.j1 k s0_0 bt240.2.1 bt240.2.2 bt234.1 bt237.1 (wrap64 (1 + bt240.1)) (⟨#[]⟩ : ByteArray))))))
theorem spec_l1Cur_record.mono_l : ∀ k, (∀ y0 y1 y2 y3 y4 y5 y6, LeO (spec_l1Cur_record.j1 k y0 y1 y2 y3 y4 y5 y6) (spec_l1Cur_record.j1 (k + 1) y0 y1 y2 y3 y4 y5 y6)) ∧ (∀ y0 y1 y2 y3 y4 y5 y6 y7, LeO (spec_l1Cur_record.l0 k y0 y1 y2 y3 y4 y5 y6 y7) (spec_l1Cur_record.l0 (k + 1) y0 y1 y2 y3 y4 y5 y6 y7))
 | 0 => ⟨fun _ _ _ _ _ _ _ r h => by simp [spec_l1Cur_record.j1] at h, fun _ _ _ _ _ _ _ _ r h => by simp [spec_l1Cur_record.l0] at h⟩
 | k + 1 => by
  obtain ⟨ih0, ih1⟩ := spec_l1Cur_record.mono_l k
  refine ⟨?_, ?_⟩
  ·intro y0 y1 y2 y3 y4 y5 y6
   unfold spec_l1Cur_record.j1
   repeat' first
   | (with_reducible exact ih0 _ _ _ _ _ _ _)
   | (with_reducible exact ih1 _ _ _ _ _ _ _ _)
   | (with_reducible exact LeO.refl _)
   | (with_reducible exact LeO.none _)
   | (with_reducible refine LeO.ite ?_ ?_)
   | (with_reducible refine LeO.bind ?_ (fun _ => ?_))
   | exact ih0 _ _ _ _ _ _ _
   | exact ih1 _ _ _ _ _ _ _ _
   | exact LeO.none _
   | refine LeO.ite ?_ ?_
   | refine LeO.bind ?_ (fun _ => ?_)
  ·intro y0 y1 y2 y3 y4 y5 y6 y7
   unfold spec_l1Cur_record.l0
   repeat' first
   | (with_reducible exact ih0 _ _ _ _ _ _ _)
   | (with_reducible exact ih1 _ _ _ _ _ _ _ _)
   | (with_reducible exact LeO.refl _)
   | (with_reducible exact LeO.none _)
   | (with_reducible refine LeO.ite ?_ ?_)
   | (with_reducible refine LeO.bind ?_ (fun _ => ?_))
   | exact ih0 _ _ _ _ _ _ _
   | exact ih1 _ _ _ _ _ _ _ _
   | exact LeO.none _
   | refine LeO.ite ?_ ?_
   | refine LeO.bind ?_ (fun _ => ?_)
theorem spec_l1Cur_record.mono : ∀ a0 a1 a2 k, LeO (spec_l1Cur_record.f k a0 a1 a2) (spec_l1Cur_record.f (k + 1) a0 a1 a2) := by
 intro a0 a1 a2 k
 obtain ⟨ih0, ih1⟩ := spec_l1Cur_record.mono_l k
 unfold spec_l1Cur_record.f
 repeat' first
   | (with_reducible exact ih0 _ _ _ _ _ _ _)
   | (with_reducible exact ih1 _ _ _ _ _ _ _ _)
   | (with_reducible exact LeO.refl _)
   | (with_reducible exact LeO.none _)
   | (with_reducible refine LeO.ite ?_ ?_)
   | (with_reducible refine LeO.bind ?_ (fun _ => ?_))
   | exact ih0 _ _ _ _ _ _ _
   | exact ih1 _ _ _ _ _ _ _ _
   | exact LeO.none _
   | refine LeO.ite ?_ ?_
   | refine LeO.bind ?_ (fun _ => ?_)
def spec_l1Cur_record.T7 : Bool × List (List Nat × List Nat) := (true, [([], []), ([0], [0]), ([], []), ([2], [2]), ([3], [3]), ([4], [4]), ([], []), ([6, 3], [6]), ([7], [7]), ([8], [8]), ([5, 9], [5, 9]), ([10], [10]), ([1, 11], [1, 11]), ([0, 1, 2, 3, 4, 5, 6, 7, 8, 9, 10, 11, 12], []), ([13, 12, 7, 0, 1, 2, 3, 4, 5, 6, 7, 8, 9, 10, 11, 12], [12, 13])])
def spec_l1Cur_record.B7 : List Nat := [0, 1, 0, 4, 12, 28, 0, 76, 204, 460, 1020, 2044, 4095, 8191, 16383]
theorem spec_l1Cur_record.tab7 : rtab .any (opsOf Try.f85 7) = spec_l1Cur_record.T7 := by kernel_rfl
theorem spec_l1Cur_record.bits7 : waitsOk spec_l1Cur_record.T7.2 spec_l1Cur_record.B7 = true := by kernel_rfl
set_option maxHeartbeats 8000000 in
set_option maxRecDepth 100000 in
theorem spec_l1Cur_record.calls (k : Nat) (g : Nat) (s0_0 : List Int) (s0_1 : Int) (s0_2 : Int) (r1 : Int) (r2 : Int) (r3 : Int) (r4 : ByteArray) (r5 : Int) (r6 : Int) (w0 w : World) (hI : IsS80 w0 w g s0_0 s0_1 s0_2) (hB : Below w0.heap.size w0 w) (h : spec_l1Cur_record.f k s0_0 s0_1 s0_2 = some (r1, r2, r3, r4, r5, r6)) :
  Calls Try.prog 85 #[.pointer (some ⟨g, 0, none⟩)] w fun e w' => e = .returned (.agg #[.int .i64 r1, .int .i64 r2, .int .i64 r3, .string r4]) ∧ IsS80 w0 w' g s0_0 r5 r6 ∧ Below w0.heap.size w0 w' ∧ KeepBut w w' g none := by
 have hu27 := Try.underlying27
 have HI0 := Aside0.mk hI
 have HK := Aside0.mk (KeepBut.refl w g none)
 have HL := Aside0.mk hB.size
 clear hI
 have HW0 := Aside0.mk hB.size
 have HB := Aside0.mk hB
 clear hB
 have H : ((spec_l1Cur_among.f s0_0 s0_1 s0_2 (([1, 1, 1, 2, 3] : List Int))).bind fun bt234 => ((spec_l1Cur_pick.f s0_0 bt234.2.1 bt234.2.2 13).bind fun bt237 => ((spec_l1Cur_pick.f s0_0 bt237.2.1 bt237.2.2 4).bind fun bt240 => (if bt234.1 = 1 then (spec_l1Cur_record.l0 k 0 s0_0 bt240.2.1 bt240.2.2 bt234.1 bt237.1 (wrap64 (1 + bt240.1)) (⟨#[]⟩ : ByteArray)) else (if bt234.1 = 3 then (spec_l1Cur_record.j1 k s0_0 bt240.2.1 bt240.2.2 bt234.1 bt237.1 0 (⟨#[]⟩ : ByteArray)) else (spec_l1Cur_record.j1 k s0_0 bt240.2.1 bt240.2.2 bt234.1 bt237.1 (wrap64 (1 + bt240.1)) (⟨#[]⟩ : ByteArray))))))) = some (r1, r2, r3, r4, r5, r6) := h
 clear h
 obtain ⟨y231, hy231⟩ : ∃ y_ : List Int, y_ = (([1, 1, 1, 2, 3] : List Int)) := ⟨_, rfl⟩
 replace H : ((spec_l1Cur_among.f s0_0 s0_1 s0_2 y231).bind fun bt234 => ((spec_l1Cur_pick.f s0_0 bt234.2.1 bt234.2.2 13).bind fun bt237 => ((spec_l1Cur_pick.f s0_0 bt237.2.1 bt237.2.2 4).bind fun bt240 => (if bt234.1 = 1 then (spec_l1Cur_record.l0 k 0 s0_0 bt240.2.1 bt240.2.2 bt234.1 bt237.1 (wrap64 (1 + bt240.1)) (⟨#[]⟩ : ByteArray)) else (if bt234.1 = 3 then (spec_l1Cur_record.j1 k s0_0 bt240.2.1 bt240.2.2 bt234.1 bt237.1 0 (⟨#[]⟩ : ByteArray)) else (spec_l1Cur_record.j1 k s0_0 bt240.2.1 bt240.2.2 bt234.1 bt237.1 (wrap64 (1 + bt240.1)) (⟨#[]⟩ : ByteArray))))))) = some (r1, r2, r3, r4, r5, r6) := by first | (rw [hy231]; with_reducible exact H) | (have H2_ := (Option.bind_some _ _).symm.trans H; rw [hy231]; with_reducible exact H2_) | (have H2_ := (Option.bind_some _ _).symm.trans H; with_reducible exact H2_) | with_reducible exact H | (rw [hy231]; exact H) | exact H
 have Ny231 := Aside0.mk hy231
 clear hy231
 replace H := Option.bind_eq_some_iff.mp H
 obtain ⟨⟨t234, t235, t236⟩, A20, H⟩ := H
 replace H : ((spec_l1Cur_pick.f s0_0 t235 t236 13).bind fun bt237 => ((spec_l1Cur_pick.f s0_0 bt237.2.1 bt237.2.2 4).bind fun bt240 => (if t234 = 1 then (spec_l1Cur_record.l0 k 0 s0_0 bt240.2.1 bt240.2.2 t234 bt237.1 (wrap64 (1 + bt240.1)) (⟨#[]⟩ : ByteArray)) else (if t234 = 3 then (spec_l1Cur_record.j1 k s0_0 bt240.2.1 bt240.2.2 t234 bt237.1 0 (⟨#[]⟩ : ByteArray)) else (spec_l1Cur_record.j1 k s0_0 bt240.2.1 bt240.2.2 t234 bt237.1 (wrap64 (1 + bt240.1)) (⟨#[]⟩ : ByteArray)))))) = some (r1, r2, r3, r4, r5, r6) := H
 have A2 := Aside0.mk A20
 clear A20
 replace H := Option.bind_eq_some_iff.mp H
 obtain ⟨⟨t237, t238, t239⟩, A30, H⟩ := H
 replace H : ((spec_l1Cur_pick.f s0_0 t238 t239 4).bind fun bt240 => (if t234 = 1 then (spec_l1Cur_record.l0 k 0 s0_0 bt240.2.1 bt240.2.2 t234 t237 (wrap64 (1 + bt240.1)) (⟨#[]⟩ : ByteArray)) else (if t234 = 3 then (spec_l1Cur_record.j1 k s0_0 bt240.2.1 bt240.2.2 t234 t237 0 (⟨#[]⟩ : ByteArray)) else (spec_l1Cur_record.j1 k s0_0 bt240.2.1 bt240.2.2 t234 t237 (wrap64 (1 + bt240.1)) (⟨#[]⟩ : ByteArray))))) = some (r1, r2, r3, r4, r5, r6) := H
 have A3 := Aside0.mk A30
 clear A30
 replace H := Option.bind_eq_some_iff.mp H
 obtain ⟨⟨t240, t241, t242⟩, A40, H⟩ := H
 replace H : (if t234 = 1 then (spec_l1Cur_record.l0 k 0 s0_0 t241 t242 t234 t237 (wrap64 (1 + t240)) (⟨#[]⟩ : ByteArray)) else (if t234 = 3 then (spec_l1Cur_record.j1 k s0_0 t241 t242 t234 t237 0 (⟨#[]⟩ : ByteArray)) else (spec_l1Cur_record.j1 k s0_0 t241 t242 t234 t237 (wrap64 (1 + t240)) (⟨#[]⟩ : ByteArray)))) = some (r1, r2, r3, r4, r5, r6) := H
 have A4 := Aside0.mk A40
 clear A40
 have HC5 := Aside0.mk H
 clear H
 go_enter Try.func85, Try.ntmps85
 go_upto_block 0 with (first | ((with_reducible refine gate_dst (N := 2) rfl ?_); refine box_event ?hg (N := 2) ?hd (cs := #[.int .i64 0, .int .i64 0, .int .i64 0, .string (⟨#[]⟩ : ByteArray)]) (t := 27) ?hr ?_; (case hd => rfl); (case hg => rfl); (case hr => first | (go_simp; done) | (go_simp; rfl)); intro gb230 hg w6 hbox hb; have n0_ := Aside0.mk (IsS80.below (by repeat (first | (with_reducible first | exact HI0.out | apply IsS80.alloc | apply IsS80.drewN | apply IsS80.drew | apply IsS80.set_1 | apply IsS80.set_2) | exact HI0.out)) hb); have n1_ := Aside0.mk (KeepBut.trans Kb (KeepBut.of_below hb g none) (.inl rfl)); have n2_ := Aside0.mk (below_step (by repeat (first | (with_reducible first | exact HB.out | apply below_alloc | apply pw_below_drewN | apply below_drew1 | refine below_set ?_ (IsS80.ge HI0.out)) | exact HB.out)) hb); have n3_ := Aside0.mk (hbox); have n4_ := Aside0.mk ((by rw [hg]; exact (keep_size (w := w) (g := g) (row := none) Kb) : w.heap.size ≤ gb230)); have n5_ := Aside0.mk ((Nat.le_trans HW0.out (by rw [hg]; exact (keep_size (w := w) (g := g) (row := none) Kb) : w.heap.size ≤ gb230) : w0.heap.size ≤ gb230)); have n6_ := Aside0.mk ((by rw [hg]; exact Nat.ne_of_lt (IsS80.lt (show IsS80 w0 _ g s0_0 s0_1 s0_2 from by repeat (first | (with_reducible first | exact HI0.out | apply IsS80.alloc | apply IsS80.drewN | apply IsS80.drew | apply IsS80.set_1 | apply IsS80.set_2) | exact HI0.out))) : g ≠ gb230)); have n7_ := Aside0.mk ((by rw [hg]; exact Nat.ne_of_gt (IsS80.lt (show IsS80 w0 _ g s0_0 s0_1 s0_2 from by repeat (first | (with_reducible first | exact HI0.out | apply IsS80.alloc | apply IsS80.drewN | apply IsS80.drew | apply IsS80.set_1 | apply IsS80.set_2) | exact HI0.out))) : gb230 ≠ g)); clear HI0; clear HK; clear HB; have HI0 := n0_; have HK := n1_; have HB := n2_; have BK230 := n3_; have GW230 := n4_; have GE230 := n5_; have NB0_230 := n6_; have NB230_0 := n7_; clear n0_ n1_ n2_ n3_ n4_ n5_ n6_ n7_; clear hb hbox hg) | ((with_reducible refine gate_dst (N := 6) rfl ?_); refine Kd.R_lit (Kd.int .i64) _ 3 ?hg (N := 6) ?hd (xs := ([1, 1, 1, 2, 3] : List Int)) (inner := [.int .i64 1, .int .i64 1, .int .i64 1, .int .i64 2, .int .i64 3]) (ok := fun _ => True) (okp := fun _ => True) ?hr ?hp (fun _ hk => hk) trivial (Below.refl _ _) (Nat.le_refl _) (by simp) ?_; (case hd => rfl); (case hg => rfl); (case hr => first | (go_simp; done) | (go_simp; rfl)); (case hp => exact (Reps.one (show Kd.M (Kd.int .i64) _ _ _ 1 [.int .i64 1] from rfl) (Reps.one (show Kd.M (Kd.int .i64) _ _ _ 1 [.int .i64 1] from rfl) (Reps.one (show Kd.M (Kd.int .i64) _ _ _ 1 [.int .i64 1] from rfl) (Reps.one (show Kd.M (Kd.int .i64) _ _ _ 2 [.int .i64 2] from rfl) (Reps.one (show Kd.M (Kd.int .i64) _ _ _ 3 [.int .i64 3] from rfl) (Reps.none _ _))))))); intro v232 w7 ho8 hb hg_ hnew_; clear hg_ hnew_; (first | rw [← Ny231.out] at ho8 | (simp only [Int.reduceToNat] at ho8; rw [← Ny231.out] at ho8)); have n0_ := Aside0.mk (Kd.R_lower ho8 (keep_size (w := w) (g := g) (row := none) (by repeat (first | (with_reducible first | exact HK.out | apply KeepBut.set_ | apply keep_drewN | apply keep_drew | apply keep_alloc | refine keep_far ?_ GW230.out _) | exact HK.out)))); have n1_ := Aside0.mk (IsS80.below (by repeat (first | (with_reducible first | exact HI0.out | apply IsS80.alloc | apply IsS80.drewN | apply IsS80.drew | apply IsS80.set_1 | apply IsS80.set_2 | refine IsS80.far ?_ NB0_230.out _) | exact HI0.out)) hb); have n2_ := Aside0.mk (blk_below (g := gb230) (o := .cells #[.int .i64 0, .int .i64 0, .int .i64 0, .string (⟨#[]⟩ : ByteArray)] 27 (0, 0)) (by (with_reducible repeat (first | refine blk_drewN ?_ _ | refine blk_drew ?_ | refine blk_alloc ?_ _)); exact BK230.out) hb); have n3_ := Aside0.mk (KeepBut.trans (by repeat (first | (with_reducible first | exact HK.out | apply KeepBut.set_ | apply keep_drewN | apply keep_drew | apply keep_alloc | refine keep_far ?_ GW230.out _) | exact HK.out)) (KeepBut.of_below hb g none) (.inl rfl)); have n4_ := Aside0.mk (below_step (by repeat (first | (with_reducible first | exact HB.out | apply below_alloc | apply pw_below_drewN | apply below_drew1 | refine below_set ?_ (IsS80.ge HI0.out) | refine below_set ?_ GE230.out) | exact HB.out)) hb); clear HI0; clear BK230; clear HK; clear HB; have HO233 := n0_; have HI0 := n1_; have BK230 := n2_; have HK := n3_; have HB := n4_; clear n0_ n1_ n2_ n3_ n4_; clear hb ho8; obtain ⟨Ao9, co9, eo9⟩ := Kd.R_slice HO233.out; subst eo9) | ((with_reducible refine gate_callee (f := 67) rfl ?_); refine goesL_ (some 7) rfl rfl Try.func67 (by kernel_rfl) rfl #[.pointer (some ⟨g, 0, none⟩), .slice Ao9 y231.length co9] rfl Mt ?_; (with_reducible refine (spec_l1Cur_among.calls g s0_0 s0_1 s0_2 _ _ y231 t234 t235 t236 w0 _ ?side1 ?side2 ?side3 ?side4 ?side5 A2.out).mono ?_); (case side1 => repeat (first | (with_reducible first | exact HI0.out | apply IsS80.alloc | apply IsS80.drewN | apply IsS80.drew | apply IsS80.set_1 | apply IsS80.set_2 | refine IsS80.far ?_ NB0_230.out _) | exact HI0.out)); (case side2 => repeat (first | (with_reducible first | exact HB.out | apply below_alloc | apply pw_below_drewN | apply below_drew1 | refine below_set ?_ (IsS80.ge HI0.out) | refine below_set ?_ GE230.out) | exact HB.out)); (case side3 => repeat (first | exact (Kd.R_reads' HO233.out).2.2 | (with_reducible refine Kd.C_alloc ?_ _) | (with_reducible refine Kd.C_drewN ?_ _) | (with_reducible refine Kd.C_drew ?_))); (case side4 => exact (Kd.R_reads' HO233.out).2.1); (case side5 => exact far_slice (IsS80.own_ne HI0.out HO233.out (by decide))); rintro e w10 ⟨rfl, hi, hb, hk⟩; refine ⟨_, rfl, ?_⟩; have n0_ := Aside0.mk (KeepBut.blk hk (g' := gb230) (o := .cells #[.int .i64 0, .int .i64 0, .int .i64 0, .string (⟨#[]⟩ : ByteArray)] 27 (0, 0)) (by (with_reducible repeat (first | refine blk_drewN ?_ _ | refine blk_drew ?_ | refine blk_alloc ?_ _)); exact BK230.out) NB230_0.out (by simp)); have n1_ := Aside0.mk (Kd.R_mono (Kd.R_keep (IsS80.apart (show IsS80 w0 _ g s0_0 s0_1 s0_2 from by repeat (first | (with_reducible first | exact HI0.out | apply IsS80.alloc | apply IsS80.drewN | apply IsS80.drew | apply IsS80.set_1 | apply IsS80.set_2 | refine IsS80.far ?_ NB0_230.out _) | exact HI0.out)) (by (with_reducible repeat (first | apply Kd.R_alloc | apply Kd.R_drewN | apply Kd.R_drew)); exact HO233.out) (by decide)) hk (fun _ h => h.2)) (fun _ h => h.1)); have n2_ := Aside0.mk (KeepBut.trans (by repeat (first | (with_reducible first | exact HK.out | apply KeepBut.set_ | apply keep_drewN | apply keep_drew | apply keep_alloc | refine keep_far ?_ GW230.out _) | exact HK.out)) hk (.inl rfl)); have n3_ := Aside0.mk (hb); have n4_ := Aside0.mk (hi); clear BK230; clear HO233; clear HK; clear HB; clear HI0; have BK230 := n0_; have HO233 := n1_; have HK := n2_; have HB := n3_; have HI0 := n4_; clear n0_ n1_ n2_ n3_ n4_; (try clear hb); (try clear hb2); (try clear hk); (try clear hi)) | ((with_reducible refine gate_callee (f := 63) rfl ?_); refine goesL_ (some 9) rfl rfl Try.func63 (by kernel_rfl) rfl #[.pointer (some ⟨g, 0, none⟩), .int .i64 13] rfl Mt ?_; (with_reducible refine (spec_l1Cur_pick.calls g s0_0 t235 t236 13 t237 t238 t239 w0 _ ?side1 ?side2 A3.out).mono ?_); (case side1 => repeat (first | (with_reducible first | exact HI0.out | apply IsS80.alloc | apply IsS80.drewN | apply IsS80.drew | apply IsS80.set_1 | apply IsS80.set_2 | refine IsS80.far ?_ NB0_230.out _) | exact HI0.out)); (case side2 => repeat (first | (with_reducible first | exact HB.out | apply below_alloc | apply pw_below_drewN | apply below_drew1 | refine below_set ?_ (IsS80.ge HI0.out) | refine below_set ?_ GE230.out) | exact HB.out)); rintro e w11 ⟨rfl, hi, hb, hk⟩; refine ⟨_, rfl, ?_⟩; have n0_ := Aside0.mk (KeepBut.blk hk (g' := gb230) (o := .cells #[.int .i64 0, .int .i64 0, .int .i64 0, .string (⟨#[]⟩ : ByteArray)] 27 (0, 0)) (by (with_reducible repeat (first | refine blk_drewN ?_ _ | refine blk_drew ?_ | refine blk_alloc ?_ _)); exact BK230.out) NB230_0.out (by simp)); have n1_ := Aside0.mk (Kd.R_mono (Kd.R_keep (IsS80.apart (show IsS80 w0 _ g s0_0 t235 t236 from by repeat (first | (with_reducible first | exact HI0.out | apply IsS80.alloc | apply IsS80.drewN | apply IsS80.drew | apply IsS80.set_1 | apply IsS80.set_2 | refine IsS80.far ?_ NB0_230.out _) | exact HI0.out)) (by (with_reducible repeat (first | apply Kd.R_alloc | apply Kd.R_drewN | apply Kd.R_drew)); exact HO233.out) (by decide)) hk (fun _ h => h.2)) (fun _ h => h.1)); have n2_ := Aside0.mk (KeepBut.trans (by repeat (first | (with_reducible first | exact HK.out | apply KeepBut.set_ | apply keep_drewN | apply keep_drew | apply keep_alloc | refine keep_far ?_ GW230.out _) | exact HK.out)) hk (.inl rfl)); have n3_ := Aside0.mk (hb); have n4_ := Aside0.mk (hi); clear BK230; clear HO233; clear HK; clear HB; clear HI0; have BK230 := n0_; have HO233 := n1_; have HK := n2_; have HB := n3_; have HI0 := n4_; clear n0_ n1_ n2_ n3_ n4_; (try clear hb); (try clear hb2); (try clear hk); (try clear hi)) | ((with_reducible refine gate_callee (f := 63) rfl ?_); refine goesL_ (some 11) rfl rfl Try.func63 (by kernel_rfl) rfl #[.pointer (some ⟨g, 0, none⟩), .int .i64 4] rfl Mt ?_; (with_reducible refine (spec_l1Cur_pick.calls g s0_0 t238 t239 4 t240 t241 t242 w0 _ ?side1 ?side2 A4.out).mono ?_); (case side1 => repeat (first | (with_reducible first | exact HI0.out | apply IsS80.alloc | apply IsS80.drewN | apply IsS80.drew | apply IsS80.set_1 | apply IsS80.set_2 | refine IsS80.far ?_ NB0_230.out _) | exact HI0.out)); (case side2 => repeat (first | (with_reducible first | exact HB.out | apply below_alloc | apply pw_below_drewN | apply below_drew1 | refine below_set ?_ (IsS80.ge HI0.out) | refine below_set ?_ GE230.out) | exact HB.out)); rintro e w12 ⟨rfl, hi, hb, hk⟩; refine ⟨_, rfl, ?_⟩; have n0_ := Aside0.mk (KeepBut.blk hk (g' := gb230) (o := .cells #[.int .i64 0, .int .i64 0, .int .i64 0, .string (⟨#[]⟩ : ByteArray)] 27 (0, 0)) (by (with_reducible repeat (first | refine blk_drewN ?_ _ | refine blk_drew ?_ | refine blk_alloc ?_ _)); exact BK230.out) NB230_0.out (by simp)); have n1_ := Aside0.mk (Kd.R_mono (Kd.R_keep (IsS80.apart (show IsS80 w0 _ g s0_0 t238 t239 from by repeat (first | (with_reducible first | exact HI0.out | apply IsS80.alloc | apply IsS80.drewN | apply IsS80.drew | apply IsS80.set_1 | apply IsS80.set_2 | refine IsS80.far ?_ NB0_230.out _) | exact HI0.out)) (by (with_reducible repeat (first | apply Kd.R_alloc | apply Kd.R_drewN | apply Kd.R_drew)); exact HO233.out) (by decide)) hk (fun _ h => h.2)) (fun _ h => h.1)); have n2_ := Aside0.mk (KeepBut.trans (by repeat (first | (with_reducible first | exact HK.out | apply KeepBut.set_ | apply keep_drewN | apply keep_drew | apply keep_alloc | refine keep_far ?_ GW230.out _) | exact HK.out)) hk (.inl rfl)); have n3_ := Aside0.mk (hb); have n4_ := Aside0.mk (hi); clear BK230; clear HO233; clear HK; clear HB; clear HI0; have BK230 := n0_; have HO233 := n1_; have HK := n2_; have HB := n3_; have HI0 := n4_; clear n0_ n1_ n2_ n3_ n4_; (try clear hb); (try clear hb2); (try clear hk); (try clear hi)) | ((with_reducible refine gate_dst (N := 3) rfl ?_); refine box_event ?hg (N := 3) ?hd (cs := #[.int .i64 0, .int .i64 0, .int .i64 0, .string (⟨#[]⟩ : ByteArray)]) (t := 27) ?hr ?_; (case hd => rfl); (case hg => rfl); (case hr => first | (go_simp; done) | (go_simp; rfl)); intro gb243 hg w13 hbox hb; have n0_ := Aside0.mk (Kd.R_below (by (with_reducible repeat (first | apply Kd.R_alloc | apply Kd.R_drewN | apply Kd.R_drew)); exact HO233.out) hb); have n1_ := Aside0.mk (IsS80.below (by repeat (first | (with_reducible first | exact HI0.out | apply IsS80.alloc | apply IsS80.drewN | apply IsS80.drew | apply IsS80.set_1 | apply IsS80.set_2 | refine IsS80.far ?_ NB0_230.out _) | exact HI0.out)) hb); have n2_ := Aside0.mk (blk_below (g := gb230) (o := .cells #[.int .i64 0, .int .i64 0, .int .i64 0, .string (⟨#[]⟩ : ByteArray)] 27 (0, 0)) (by (with_reducible repeat (first | refine blk_drewN ?_ _ | refine blk_drew ?_ | refine blk_alloc ?_ _)); exact BK230.out) hb); have n3_ := Aside0.mk (KeepBut.trans (by repeat (first | (with_reducible first | exact HK.out | apply KeepBut.set_ | apply keep_drewN | apply keep_drew | apply keep_alloc | refine keep_far ?_ GW230.out _) | exact HK.out)) (KeepBut.of_below hb g none) (.inl rfl)); have n4_ := Aside0.mk (below_step (by repeat (first | (with_reducible first | exact HB.out | apply below_alloc | apply pw_below_drewN | apply below_drew1 | refine below_set ?_ (IsS80.ge HI0.out) | refine below_set ?_ GE230.out) | exact HB.out)) hb); have n5_ := Aside0.mk (hbox); have n6_ := Aside0.mk ((by rw [hg]; exact (keep_size (w := w) (g := g) (row := none) (by repeat (first | (with_reducible first | exact HK.out | apply KeepBut.set_ | apply keep_drewN | apply keep_drew | apply keep_alloc | refine keep_far ?_ GW230.out _) | exact HK.out))) : w.heap.size ≤ gb243)); have n7_ := Aside0.mk ((Nat.le_trans HW0.out (by rw [hg]; exact (keep_size (w := w) (g := g) (row := none) (by repeat (first | (with_reducible first | exact HK.out | apply KeepBut.set_ | apply keep_drewN | apply keep_drew | apply keep_alloc | refine keep_far ?_ GW230.out _) | exact HK.out))) : w.heap.size ≤ gb243) : w0.heap.size ≤ gb243)); have n8_ := Aside0.mk ((by rw [hg]; exact Nat.ne_of_lt (blk_lt (g := gb230) (o := .cells #[.int .i64 0, .int .i64 0, .int .i64 0, .string (⟨#[]⟩ : ByteArray)] 27 (0, 0)) (by (with_reducible repeat (first | refine blk_drewN ?_ _ | refine blk_drew ?_ | refine blk_alloc ?_ _)); exact BK230.out)) : gb230 ≠ gb243)); have n9_ := Aside0.mk ((by rw [hg]; exact Nat.ne_of_gt (blk_lt (g := gb230) (o := .cells #[.int .i64 0, .int .i64 0, .int .i64 0, .string (⟨#[]⟩ : ByteArray)] 27 (0, 0)) (by (with_reducible repeat (first | refine blk_drewN ?_ _ | refine blk_drew ?_ | refine blk_alloc ?_ _)); exact BK230.out)) : gb243 ≠ gb230)); have n10_ := Aside0.mk ((by rw [hg]; exact Nat.ne_of_lt (IsS80.lt (show IsS80 w0 _ g s0_0 t241 t242 from by repeat (first | (with_reducible first | exact HI0.out | apply IsS80.alloc | apply IsS80.drewN | apply IsS80.drew | apply IsS80.set_1 | apply IsS80.set_2 | refine IsS80.far ?_ NB0_230.out _) | exact HI0.out))) : g ≠ gb243)); have n11_ := Aside0.mk ((by rw [hg]; exact Nat.ne_of_gt (IsS80.lt (show IsS80 w0 _ g s0_0 t241 t242 from by repeat (first | (with_reducible first | exact HI0.out | apply IsS80.alloc | apply IsS80.drewN | apply IsS80.drew | apply IsS80.set_1 | apply IsS80.set_2 | refine IsS80.far ?_ NB0_230.out _) | exact HI0.out))) : gb243 ≠ g)); clear HO233; clear HI0; clear BK230; clear HK; clear HB; have HO233 := n0_; have HI0 := n1_; have BK230 := n2_; have HK := n3_; have HB := n4_; have BK243 := n5_; have GW243 := n6_; have GE243 := n7_; have NB230_243 := n8_; have NB243_230 := n9_; have NB0_243 := n10_; have NB243_0 := n11_; clear n0_ n1_ n2_ n3_ n4_ n5_ n6_ n7_ n8_ n9_ n10_ n11_; clear hb hbox hg; have hnb14 := NB243_230.out; have hnc14 := NB230_243.out; have hnb15 := NB243_0.out; have hnc15 := NB0_243.out; have hcz16_0 : w13.cell? ⟨gb243, 0, none⟩ = some (.int .i64 0) := (blk_cell BK243.out 0).trans rfl; have hcz16_1 : w13.cell? ⟨gb243, 1, none⟩ = some (.int .i64 0) := (blk_cell BK243.out 1).trans rfl; have hcz16_2 : w13.cell? ⟨gb243, 2, none⟩ = some (.int .i64 0) := (blk_cell BK243.out 2).trans rfl; have hcz16_3 : w13.cell? ⟨gb243, 3, none⟩ = some (.string (⟨#[]⟩ : ByteArray)) := (blk_cell BK243.out 3).trans rfl; have hfz16_0 := blk_frozen BK243.out 0; have hfz16_1 := blk_frozen BK243.out 1; have hfz16_2 := blk_frozen BK243.out 2; have hfz16_3 := blk_frozen BK243.out 3))
 (try simp only [Act.put, List.setIfInBounds_toArray, List.set_cons_zero, List.set_cons_succ])
 go_cut [] (fun wc => ∃ (kq : Nat) (x1001_4 : Int) (x1002_4 : Int) (x244002_4 : Int) (x244003_4 : ByteArray), Aside0 (spec_l1Cur_record.j1 kq s0_0 x1001_4 x1002_4 t234 t237 x244002_4 x244003_4 = some (r1, r2, r3, r4, r5, r6)) ∧ Aside0 (kq ≤ k) ∧ Aside0 (wc.heap[gb230]? = some (.cells #[.int .i64 0, .int .i64 0, .int .i64 0, .string (⟨#[]⟩ : ByteArray)] 27 (0, 0))) ∧ Aside0 (wc.heap[gb243]? = some (.cells #[.int .i64 t234, .int .i64 t237, .int .i64 x244002_4, .string x244003_4] 27 (0, 0))) ∧ Aside0 (IsS80 w0 wc g s0_0 x1001_4 x1002_4) ∧ Aside0 (KeepBut w wc g none) ∧ Aside0 (Below w0.heap.size w0 wc))
 case first =>
  have H := HC5.out
  clear HC5
  by_cases c17 : t234 = 1
  ·rw [if_pos c17] at H
   have c17b0 : (t234 == 1) = true := beq_iff_eq.mpr c17
   have c17b1 : (t234 != 1) = false := bne_eq_false_iff_eq.mpr c17
   clear c17
   (first | rw [c17b0] | (simp only [i64_w, i32_w]; rw [c17b0]) | skip)
   have H' := Aside0.mk H
   clear H
   go_wp2
   go_loopg [4] k (fun kq v4 w' => ∃ (x4_1 : Int) (x1001_1 : Int) (x1002_1 : Int) (x244003_1 : ByteArray), v4 = .int .i64 x4_1 ∧ Aside0 (spec_l1Cur_record.l0 kq x4_1 s0_0 x1001_1 x1002_1 t234 t237 (wrap64 (1 + t240)) x244003_1 = some (r1, r2, r3, r4, r5, r6)) ∧ Aside0 (kq ≤ k) ∧ Aside0 (w'.heap[gb230]? = some (.cells #[.int .i64 0, .int .i64 0, .int .i64 0, .string (⟨#[]⟩ : ByteArray)] 27 (0, 0))) ∧ Aside0 (w'.heap[gb243]? = some (.cells #[.int .i64 t234, .int .i64 t237, .int .i64 (wrap64 (1 + t240)), .string x244003_1] 27 (0, 0))) ∧ Aside0 (IsS80 w0 w' g s0_0 x1001_1 x1002_1) ∧ Aside0 (KeepBut w w' g none) ∧ Aside0 (Below w0.heap.size w0 w'))
   case atStart => exact ⟨(0), (t241), (t242), ((⟨#[]⟩ : ByteArray)), (by first | rfl | (simp; done) | (simp [*]; done)), H', ⟨Nat.le_refl _⟩, ⟨by (with_reducible repeat (first | refine blk_drewN ?_ _ | refine blk_drew ?_ | refine blk_alloc ?_ _)); refine blk_far ?_ NB230_243.out _; (with_reducible repeat (first | refine blk_drewN ?_ _ | refine blk_drew ?_ | refine blk_alloc ?_ _)); refine blk_far ?_ NB230_243.out _; (with_reducible repeat (first | refine blk_drewN ?_ _ | refine blk_drew ?_ | refine blk_alloc ?_ _)); refine blk_far ?_ NB230_243.out _; (with_reducible repeat (first | refine blk_drewN ?_ _ | refine blk_drew ?_ | refine blk_alloc ?_ _)); refine blk_far ?_ NB230_243.out _; (with_reducible repeat (first | refine blk_drewN ?_ _ | refine blk_drew ?_ | refine blk_alloc ?_ _)); exact BK230.out⟩, ⟨by (with_reducible repeat (first | refine blk_drewN ?_ _ | refine blk_drew ?_ | refine blk_alloc ?_ _)); refine blk_put (cs := #[.int .i64 t234, .int .i64 t237, .int .i64 (wrap64 (1 + t240)), .string (⟨#[]⟩ : ByteArray)]) ?_ 3 _ rfl; (with_reducible repeat (first | refine blk_drewN ?_ _ | refine blk_drew ?_ | refine blk_alloc ?_ _)); refine blk_put (cs := #[.int .i64 t234, .int .i64 t237, .int .i64 0, .string (⟨#[]⟩ : ByteArray)]) ?_ 2 _ rfl; (with_reducible repeat (first | refine blk_drewN ?_ _ | refine blk_drew ?_ | refine blk_alloc ?_ _)); refine blk_put (cs := #[.int .i64 t234, .int .i64 0, .int .i64 0, .string (⟨#[]⟩ : ByteArray)]) ?_ 1 _ rfl; (with_reducible repeat (first | refine blk_drewN ?_ _ | refine blk_drew ?_ | refine blk_alloc ?_ _)); refine blk_put (cs := #[.int .i64 0, .int .i64 0, .int .i64 0, .string (⟨#[]⟩ : ByteArray)]) ?_ 0 _ rfl; (with_reducible repeat (first | refine blk_drewN ?_ _ | refine blk_drew ?_ | refine blk_alloc ?_ _)); exact BK243.out⟩, ⟨by repeat (first | (with_reducible first | exact HI0.out | apply IsS80.alloc | apply IsS80.drewN | apply IsS80.drew | apply IsS80.set_1 | apply IsS80.set_2 | refine IsS80.far ?_ NB0_230.out _ | refine IsS80.far ?_ NB0_243.out _) | exact HI0.out)⟩, ⟨by repeat (first | (with_reducible first | exact HK.out | apply KeepBut.set_ | apply keep_drewN | apply keep_drew | apply keep_alloc | refine keep_far ?_ GW230.out _ | refine keep_far ?_ GW243.out _) | exact HK.out)⟩, ⟨by repeat (first | (with_reducible first | exact HB.out | apply below_alloc | apply pw_below_drewN | apply below_drew1 | refine below_set ?_ (IsS80.ge HI0.out) | refine below_set ?_ GE230.out | refine below_set ?_ GE243.out) | exact HB.out)⟩⟩
   case round =>
    clear H'
    try clear c1
    try clear p2
    try clear c6
    try clear p6
    try clear c8
    try clear c14
    try clear c15
    try clear c17
    try clear c17b0
    try clear c17b1
    try clear hcz16_0
    try clear hcz16_1
    try clear hcz16_2
    try clear hcz16_3
    try clear hfz16_0
    try clear hfz16_1
    try clear hfz16_2
    try clear hfz16_3
    obtain ⟨x4_1, x1001_1, x1002_1, x244003_1, rfl, HA, HK1, BK230, BK243, HI0, HK, HB⟩ := hrel
    cases gk with
    | zero => exact absurd HA.out (by simp [spec_l1Cur_record.l0])
    | succ k1 =>
     have H := HA.out
     clear HA
     simp only [spec_l1Cur_record.l0] at H
     by_cases c18 : x4_1 < (wrap64 (1 + t240))
     ·rw [if_pos c18] at H
      have c18b0 : decide (x4_1 < (wrap64 (1 + t240))) = true := decide_eq_true c18
      clear c18
      replace H := Option.bind_eq_some_iff.mp H
      obtain ⟨⟨t244, t245, t246⟩, A190, H⟩ := H
      replace H : ((spec_l1Cur_pick.f s0_0 t245 t246 5).bind fun bt247 => ((some (([(wrap64 (97 + t244)) % 256, (wrap64 (97 + bt247.1)) % 256] : List Int) : List Int)).bind fun y250 => (if x244003_1.size + (strOfNums y250).size ≤ 9223372036854775807 then (spec_l1Cur_record.l0 k1 (wrap64 (x4_1 + 1)) s0_0 bt247.2.1 bt247.2.2 t234 t237 (wrap64 (1 + t240)) (x244003_1 ++ (strOfNums y250))) else (none)))) = some (r1, r2, r3, r4, r5, r6) := H
      have A19 := Aside0.mk A190
      clear A190
      replace H := Option.bind_eq_some_iff.mp H
      obtain ⟨⟨t247, t248, t249⟩, A200, H⟩ := H
      replace H : ((some (([(wrap64 (97 + t244)) % 256, (wrap64 (97 + t247)) % 256] : List Int) : List Int)).bind fun y250 => (if x244003_1.size + (strOfNums y250).size ≤ 9223372036854775807 then (spec_l1Cur_record.l0 k1 (wrap64 (x4_1 + 1)) s0_0 t248 t249 t234 t237 (wrap64 (1 + t240)) (x244003_1 ++ (strOfNums y250))) else (none))) = some (r1, r2, r3, r4, r5, r6) := H
      have A20 := Aside0.mk A200
      clear A200
      obtain ⟨y250, hy250⟩ : ∃ y_ : List Int, y_ = (([(wrap64 (97 + t244)) % 256, (wrap64 (97 + t247)) % 256] : List Int)) := ⟨_, rfl⟩
      replace H : (if x244003_1.size + (strOfNums y250).size ≤ 9223372036854775807 then (spec_l1Cur_record.l0 k1 (wrap64 (x4_1 + 1)) s0_0 t248 t249 t234 t237 (wrap64 (1 + t240)) (x244003_1 ++ (strOfNums y250))) else (none)) = some (r1, r2, r3, r4, r5, r6) := by first | (rw [hy250]; with_reducible exact H) | (have H2_ := (Option.bind_some _ _).symm.trans H; rw [hy250]; with_reducible exact H2_) | (have H2_ := (Option.bind_some _ _).symm.trans H; with_reducible exact H2_) | with_reducible exact H | (rw [hy250]; exact H) | exact H
      have Ny250 := Aside0.mk hy250
      clear hy250
      by_cases c21 : x244003_1.size + (strOfNums y250).size ≤ 9223372036854775807
      ·rw [if_pos c21] at H
       have c21b0 := eq_true c21
       have c21b1 : decide (x244003_1.size + (strOfNums y250).size ≤ 9223372036854775807) = true := decide_eq_true c21
       try have c21b2 : (9223372036854775807 < x244003_1.size + (strOfNums y250).size) = False := eq_false (Nat.not_lt.2 c21)
       have H' := Aside0.mk H
       clear H
       have hnb22 := NB243_230.out
       have hnc22 := NB230_243.out
       have hnb23 := NB243_0.out
       have hnc23 := NB0_243.out
       have hcz24_0 : wr.cell? ⟨gb243, 0, none⟩ = some (.int .i64 t234) := (blk_cell BK243.out 0).trans rfl
       have hcz24_1 : wr.cell? ⟨gb243, 1, none⟩ = some (.int .i64 t237) := (blk_cell BK243.out 1).trans rfl
       have hcz24_2 : wr.cell? ⟨gb243, 2, none⟩ = some (.int .i64 (wrap64 (1 + t240))) := (blk_cell BK243.out 2).trans rfl
       have hcz24_3 : wr.cell? ⟨gb243, 3, none⟩ = some (.string x244003_1) := (blk_cell BK243.out 3).trans rfl
       have hfz24_0 := blk_frozen BK243.out 0
       have hfz24_1 := blk_frozen BK243.out 1
       have hfz24_2 := blk_frozen BK243.out 2
       have hfz24_3 := blk_frozen BK243.out 3
       try go_wp2
       have n0_ := Aside0.mk (blk_drew BK230.out)
       have n1_ := Aside0.mk (blk_drew BK243.out)
       have n2_ := Aside0.mk (IsS80.drew HI0.out)
       have n3_ := Aside0.mk (keep_drew HK.out)
       have n4_ := Aside0.mk (below_drew1 HB.out)
       clear BK230
       clear BK243
       clear HI0
       clear HK
       clear HB
       have BK230 := n0_
       have BK243 := n1_
       have HI0 := n2_
       have HK := n3_
       have HB := n4_
       clear n0_ n1_ n2_ n3_ n4_
       refine start_ (n := 15) (S := fun w' => w'.cell? ⟨gb243, 0, none⟩ = some (.int .i64 t234) ∧ w'.cell? ⟨gb243, 1, none⟩ = some (.int .i64 t237) ∧ w'.cell? ⟨gb243, 2, none⟩ = some (.int .i64 (wrap64 (1 + t240))) ∧ w'.cell? ⟨gb243, 3, none⟩ = some (.string x244003_1)) (ds := [14]) #[O,O,O,O,O,O,O,O,O,O,O,O,O,O,O] (by kernel_rfl) rfl rfl ⟨(blk_cell BK243.out 0).trans rfl, (blk_cell BK243.out 1).trans rfl, (blk_cell BK243.out 2).trans rfl, (blk_cell BK243.out 3).trans rfl⟩ (fun hHeld => ?_); refine with_tabW spec_l1Cur_record.tab7 spec_l1Cur_record.bits7 (fun HT_ HW_ => ?_)
       generalize wr.drew = w25 at BK230 BK243 HI0 HK HB hHeld ⊢
       refine pure_ (i := 0) (N := some 24) (v := ?_) (a' := ?_) #[Y,O,O,O,O,O,O,O,O,O,O,O,O,O,O] rfl rfl (any_of HT_.out (by kernel_rfl)) (fun _ _ _ h => h) (Or.inl ⟨by rfl, ?_⟩) ?_ ?_
       rotate_left
       ·intro w'
        go_simp
        with_reducible rfl
       rotate_left
       ·simp only [Act.put, List.setIfInBounds_toArray, List.set_cons_zero, List.set_cons_succ, i64_w, i32_w]
        rfl
       refine pure_ (i := 2) (N := some 26) (v := ?_) (a' := ?_) #[Y,O,Y,O,O,O,O,O,O,O,O,O,O,O,O] rfl rfl (any_of HT_.out (by kernel_rfl)) (fun _ _ _ h => h) (Or.inl ⟨by rfl, ?_⟩) ?_ ?_
       rotate_left
       ·intro w'
        go_simp
        with_reducible rfl
       rotate_left
       ·simp only [Act.put, List.setIfInBounds_toArray, List.set_cons_zero, List.set_cons_succ, i64_w, i32_w]
        rfl
       refine pure_ (i := 6) (N := some 30) (v := ?_) (a' := ?_) #[Y,O,Y,O,O,O,Y,O,O,O,O,O,O,O,O] rfl rfl (any_of HT_.out (by kernel_rfl)) (fun _ _ _ h => h) (Or.inl ⟨by rfl, ?_⟩) ?_ ?_
       rotate_left
       ·intro w'
        go_simp
        with_reducible rfl
       rotate_left
       ·simp only [Act.put, List.setIfInBounds_toArray, List.set_cons_zero, List.set_cons_succ, i64_w, i32_w]
        rfl
       refine take_ (i := 1) (N := some 25) (v := ?_) (a' := ?_) #[Y,Y,Y,O,O,O,Y,O,O,O,O,O,O,O,O] rfl rfl (take_ofW HT_.out HW_.out (by kernel_rfl)) (fun _ _ _ h => h) (Or.inl ⟨by rfl, ?_⟩) hHeld ?_ ?_
       rotate_left
       ·rintro w' ⟨s0, s1, s2, s3⟩
        go_simp
        with_reducible rfl
       rotate_left
       ·simp only [Act.put, List.setIfInBounds_toArray, List.set_cons_zero, List.set_cons_succ, i64_w, i32_w]
        rfl
       refine one_ (i := 3) (N := some 27) #[Y,Y,Y,Y,O,O,Y,O,O,O,O,O,O,O,O] rfl rfl (one_of HT_.out (by kernel_rfl)) (by decide) (fun K hK => ?_)
       refine goes_ Try.func63 (by kernel_rfl) rfl #[.pointer (some ⟨g, 0, none⟩), .int .i64 5] (by rfl) rfl rfl Mt ?_
       with_reducible refine (spec_l1Cur_pick.calls g s0_0 x1001_1 x1002_1 5 t244 t245 t246 w0 _ ?side1 ?side2 A19.out).mono ?_
       (case side1 => repeat (first | (with_reducible first | exact HI0.out | apply IsS80.alloc | apply IsS80.drewN | apply IsS80.drew | apply IsS80.set_1 | apply IsS80.set_2 | refine IsS80.far ?_ NB0_230.out _ | refine IsS80.far ?_ NB0_243.out _) | exact HI0.out))
       (case side2 => repeat (first | (with_reducible first | exact HB.out | apply below_alloc | apply pw_below_drewN | apply below_drew1 | refine below_set ?_ (IsS80.ge HI0.out) | refine below_set ?_ GE230.out | refine below_set ?_ GE243.out) | exact HB.out))
       rintro e w26 ⟨rfl, hi, hb, hk⟩
       refine ⟨_, rfl, ?_⟩
       have n0_ := Aside0.mk (KeepBut.blk hk (g' := gb230) (o := .cells #[.int .i64 0, .int .i64 0, .int .i64 0, .string (⟨#[]⟩ : ByteArray)] 27 (0, 0)) (by (with_reducible repeat (first | refine blk_drewN ?_ _ | refine blk_drew ?_ | refine blk_alloc ?_ _)); exact BK230.out) NB230_0.out (by simp))
       have n1_ := Aside0.mk (KeepBut.blk hk (g' := gb243) (o := .cells #[.int .i64 t234, .int .i64 t237, .int .i64 (wrap64 (1 + t240)), .string x244003_1] 27 (0, 0)) (by (with_reducible repeat (first | refine blk_drewN ?_ _ | refine blk_drew ?_ | refine blk_alloc ?_ _)); exact BK243.out) NB243_0.out (by simp))
       have n2_ := Aside0.mk (KeepBut.trans (by repeat (first | (with_reducible first | exact HK.out | apply KeepBut.set_ | apply keep_drewN | apply keep_drew | apply keep_alloc | refine keep_far ?_ GW230.out _ | refine keep_far ?_ GW243.out _) | exact HK.out)) hk (.inl rfl))
       have n3_ := Aside0.mk (hb)
       have n4_ := Aside0.mk (hi)
       clear BK230
       clear BK243
       clear HK
       clear HB
       clear HI0
       have BK230 := n0_
       have BK243 := n1_
       have HK := n2_
       have HB := n3_
       have HI0 := n4_
       clear n0_ n1_ n2_ n3_ n4_
       (try clear hb)
       (try clear hb2)
       (try clear hk)
       (try clear hi)
       refine hK.out _ _ ⟨(blk_cell BK243.out 0).trans rfl, (blk_cell BK243.out 1).trans rfl, (blk_cell BK243.out 2).trans rfl, (blk_cell BK243.out 3).trans rfl⟩ (fun hHeld => ?_)
       clear hK K
       refine norm_ (a' := ?_) ?_ ?_
       rotate_left
       ·show Act.put _ (some 27) _ = _
        simp only [Act.put, List.setIfInBounds_toArray, List.set_cons_zero, List.set_cons_succ, i64_w, i32_w]
        rfl
       refine pure_ (i := 4) (N := some 28) (v := ?_) (a' := ?_) #[Y,Y,Y,Y,Y,O,Y,O,O,O,O,O,O,O,O] rfl rfl (any_of HT_.out (by kernel_rfl)) (fun _ _ _ h => h) (Or.inl ⟨by rfl, ?_⟩) ?_ ?_
       rotate_left
       ·intro w'
        go_simp
        with_reducible rfl
       rotate_left
       ·simp only [Act.put, List.setIfInBounds_toArray, List.set_cons_zero, List.set_cons_succ, i64_w, i32_w]
        rfl
       refine pure_ (i := 5) (N := some 29) (v := ?_) (a' := ?_) #[Y,Y,Y,Y,Y,Y,Y,O,O,O,O,O,O,O,O] rfl rfl (any_of HT_.out (by kernel_rfl)) (fun _ _ _ h => h) (Or.inl ⟨by rfl, ?_⟩) ?_ ?_
       rotate_left
       ·intro w'
        go_simp
        with_reducible rfl
       rotate_left
       ·simp only [Act.put, List.setIfInBounds_toArray, List.set_cons_zero, List.set_cons_succ, i64_w, i32_w]
        rfl
       refine one_ (i := 7) (N := some 31) #[Y,Y,Y,Y,Y,Y,Y,Y,O,O,O,O,O,O,O] rfl rfl (one_of HT_.out (by kernel_rfl)) (by decide) (fun K hK => ?_)
       refine goes_ Try.func63 (by kernel_rfl) rfl #[.pointer (some ⟨g, 0, none⟩), .int .i64 5] (by rfl) rfl rfl Mt ?_
       with_reducible refine (spec_l1Cur_pick.calls g s0_0 t245 t246 5 t247 t248 t249 w0 _ ?side1 ?side2 A20.out).mono ?_
       (case side1 => repeat (first | (with_reducible first | exact HI0.out | apply IsS80.alloc | apply IsS80.drewN | apply IsS80.drew | apply IsS80.set_1 | apply IsS80.set_2 | refine IsS80.far ?_ NB0_230.out _ | refine IsS80.far ?_ NB0_243.out _) | exact HI0.out))
       (case side2 => repeat (first | (with_reducible first | exact HB.out | apply below_alloc | apply pw_below_drewN | apply below_drew1 | refine below_set ?_ (IsS80.ge HI0.out) | refine below_set ?_ GE230.out | refine below_set ?_ GE243.out) | exact HB.out))
       rintro e w27 ⟨rfl, hi, hb, hk⟩
       refine ⟨_, rfl, ?_⟩
       have n0_ := Aside0.mk (KeepBut.blk hk (g' := gb230) (o := .cells #[.int .i64 0, .int .i64 0, .int .i64 0, .string (⟨#[]⟩ : ByteArray)] 27 (0, 0)) (by (with_reducible repeat (first | refine blk_drewN ?_ _ | refine blk_drew ?_ | refine blk_alloc ?_ _)); exact BK230.out) NB230_0.out (by simp))
       have n1_ := Aside0.mk (KeepBut.blk hk (g' := gb243) (o := .cells #[.int .i64 t234, .int .i64 t237, .int .i64 (wrap64 (1 + t240)), .string x244003_1] 27 (0, 0)) (by (with_reducible repeat (first | refine blk_drewN ?_ _ | refine blk_drew ?_ | refine blk_alloc ?_ _)); exact BK243.out) NB243_0.out (by simp))
       have n2_ := Aside0.mk (KeepBut.trans (by repeat (first | (with_reducible first | exact HK.out | apply KeepBut.set_ | apply keep_drewN | apply keep_drew | apply keep_alloc | refine keep_far ?_ GW230.out _ | refine keep_far ?_ GW243.out _) | exact HK.out)) hk (.inl rfl))
       have n3_ := Aside0.mk (hb)
       have n4_ := Aside0.mk (hi)
       clear BK230
       clear BK243
       clear HK
       clear HB
       clear HI0
       have BK230 := n0_
       have BK243 := n1_
       have HK := n2_
       have HB := n3_
       have HI0 := n4_
       clear n0_ n1_ n2_ n3_ n4_
       (try clear hb)
       (try clear hb2)
       (try clear hk)
       (try clear hi)
       refine hK.out _ _ ⟨(blk_cell BK243.out 0).trans rfl, (blk_cell BK243.out 1).trans rfl, (blk_cell BK243.out 2).trans rfl, (blk_cell BK243.out 3).trans rfl⟩ (fun hHeld => ?_)
       clear hK K
       refine norm_ (a' := ?_) ?_ ?_
       rotate_left
       ·show Act.put _ (some 31) _ = _
        simp only [Act.put, List.setIfInBounds_toArray, List.set_cons_zero, List.set_cons_succ, i64_w, i32_w]
        rfl
       refine pure_ (i := 8) (N := some 32) (v := ?_) (a' := ?_) #[Y,Y,Y,Y,Y,Y,Y,Y,Y,O,O,O,O,O,O] rfl rfl (any_of HT_.out (by kernel_rfl)) (fun _ _ _ h => h) (Or.inl ⟨by rfl, ?_⟩) ?_ ?_
       rotate_left
       ·intro w'
        go_simp
        with_reducible rfl
       rotate_left
       ·simp only [Act.put, List.setIfInBounds_toArray, List.set_cons_zero, List.set_cons_succ, i64_w, i32_w]
        rfl
       refine pure_ (i := 9) (N := some 33) (v := ?_) (a' := ?_) #[Y,Y,Y,Y,Y,Y,Y,Y,Y,Y,O,O,O,O,O] rfl rfl (any_of HT_.out (by kernel_rfl)) (fun _ _ _ h => h) (Or.inl ⟨by rfl, ?_⟩) ?_ ?_
       rotate_left
       ·intro w'
        go_simp
        with_reducible rfl
       rotate_left
       ·simp only [Act.put, List.setIfInBounds_toArray, List.set_cons_zero, List.set_cons_succ, i64_w, i32_w]
        rfl
       refine one_ (i := 10) (N := some 34) #[Y,Y,Y,Y,Y,Y,Y,Y,Y,Y,Y,O,O,O,O] rfl rfl (one_of HT_.out (by kernel_rfl)) (by decide) (fun K hK => ?_)
       refine Kd.R_lit_step (Kd.int .u8) _ 5 ?hg (N := 34) ?hd (xs := ([(wrap64 (97 + t244)) % 256, (wrap64 (97 + t247)) % 256] : List Int)) (inner := [.int .u8 ((wrap64 (97 + t244)) % 256), .int .u8 ((wrap64 (97 + t247)) % 256)]) (ok := fun _ => True) (okp := fun _ => True) ?hr ?hp (fun _ hk => hk) trivial (Below.refl _ _) (Nat.le_refl _) (by simp) ?_; (case hd => rfl); (case hg => rfl); (case hr => first | (go_simp; done) | (go_simp; rfl)); (case hp => exact (Reps.one (show Kd.M (Kd.int .u8) _ _ _ ((wrap64 (97 + t244)) % 256) [.int .u8 ((wrap64 (97 + t244)) % 256)] from rfl) (Reps.one (show Kd.M (Kd.int .u8) _ _ _ ((wrap64 (97 + t247)) % 256) [.int .u8 ((wrap64 (97 + t247)) % 256)] from rfl) (Reps.none _ _))))
       intro v251 w28 ho29 hb hg_ hnew_
       clear hg_ hnew_
       (first | rw [← Ny250.out] at ho29 | (simp only [Int.reduceToNat] at ho29; rw [← Ny250.out] at ho29))
       have n0_ := Aside0.mk (Kd.R_lower ho29 (keep_size (w := w) (g := g) (row := none) (by repeat (first | (with_reducible first | exact HK.out | apply KeepBut.set_ | apply keep_drewN | apply keep_drew | apply keep_alloc | refine keep_far ?_ GW230.out _ | refine keep_far ?_ GW243.out _) | exact HK.out))))
       have n1_ := Aside0.mk (blk_below (g := gb230) (o := .cells #[.int .i64 0, .int .i64 0, .int .i64 0, .string (⟨#[]⟩ : ByteArray)] 27 (0, 0)) (by (with_reducible repeat (first | refine blk_drewN ?_ _ | refine blk_drew ?_ | refine blk_alloc ?_ _)); exact BK230.out) hb)
       have n2_ := Aside0.mk (blk_below (g := gb243) (o := .cells #[.int .i64 t234, .int .i64 t237, .int .i64 (wrap64 (1 + t240)), .string x244003_1] 27 (0, 0)) (by (with_reducible repeat (first | refine blk_drewN ?_ _ | refine blk_drew ?_ | refine blk_alloc ?_ _)); exact BK243.out) hb)
       have n3_ := Aside0.mk (IsS80.below (by repeat (first | (with_reducible first | exact HI0.out | apply IsS80.alloc | apply IsS80.drewN | apply IsS80.drew | apply IsS80.set_1 | apply IsS80.set_2 | refine IsS80.far ?_ NB0_230.out _ | refine IsS80.far ?_ NB0_243.out _) | exact HI0.out)) hb)
       have n4_ := Aside0.mk (KeepBut.trans (by repeat (first | (with_reducible first | exact HK.out | apply KeepBut.set_ | apply keep_drewN | apply keep_drew | apply keep_alloc | refine keep_far ?_ GW230.out _ | refine keep_far ?_ GW243.out _) | exact HK.out)) (KeepBut.of_below hb g none) (.inl rfl))
       have n5_ := Aside0.mk (below_step (by repeat (first | (with_reducible first | exact HB.out | apply below_alloc | apply pw_below_drewN | apply below_drew1 | refine below_set ?_ (IsS80.ge HI0.out) | refine below_set ?_ GE230.out | refine below_set ?_ GE243.out) | exact HB.out)) hb)
       clear BK230
       clear BK243
       clear HI0
       clear HK
       clear HB
       have HO252 := n0_
       have BK230 := n1_
       have BK243 := n2_
       have HI0 := n3_
       have HK := n4_
       have HB := n5_
       clear n0_ n1_ n2_ n3_ n4_ n5_
       clear hb ho29
       refine hK.out _ _ ⟨(blk_cell BK243.out 0).trans rfl, (blk_cell BK243.out 1).trans rfl, (blk_cell BK243.out 2).trans rfl, (blk_cell BK243.out 3).trans rfl⟩ (fun hHeld => ?_)
       clear hK K
       refine norm_ (a' := ?_) ?_ ?_
       rotate_left
       ·show Act.put _ (some 34) _ = _
        simp only [Act.put, List.setIfInBounds_toArray, List.set_cons_zero, List.set_cons_succ, i64_w, i32_w]
        rfl
       refine one_ (i := 11) (N := some 35) #[Y,Y,Y,Y,Y,Y,Y,Y,Y,Y,Y,Y,O,O,O] rfl rfl (one_of HT_.out (by kernel_rfl)) (by decide) (fun K hK => ?_)
       have hcv30 := own_string (P := Try.prog) Try.underlying46 Try.underlying5 Try.underlying9 (Kd.own_of_R HO252.out)
       refine value_ (w1 := ?_) (v := ?_) (by rfl) rfl ?_ ?_
       rotate_left 2
       ·go_simp
        constructor
        ·rfl
        ·rfl
       clear hcv30
       refine hK.out _ _ ⟨(blk_cell BK243.out 0).trans rfl, (blk_cell BK243.out 1).trans rfl, (blk_cell BK243.out 2).trans rfl, (blk_cell BK243.out 3).trans rfl⟩ (fun hHeld => ?_)
       clear hK K
       refine norm_ (a' := ?_) ?_ ?_
       rotate_left
       ·show Act.put _ (some 35) _ = _
        simp only [Act.put, List.setIfInBounds_toArray, List.set_cons_zero, List.set_cons_succ, i64_w, i32_w]
        rfl
       refine pure_ (i := 12) (N := some 36) (v := ?_) (a' := ?_) #[Y,Y,Y,Y,Y,Y,Y,Y,Y,Y,Y,Y,Y,O,O] rfl rfl (any_of HT_.out (by kernel_rfl)) (fun _ _ _ h => h) (Or.inl ⟨by rfl, ?_⟩) ?_ ?_
       rotate_left
       ·intro w'
        go_simp
        with_reducible rfl
       rotate_left
       ·simp only [Act.put, List.setIfInBounds_toArray, List.set_cons_zero, List.set_cons_succ, i64_w, i32_w]
        rfl
       refine pure_ (i := 13) (N := some 37) (v := ?_) (a' := ?_) #[Y,Y,Y,Y,Y,Y,Y,Y,Y,Y,Y,Y,Y,Y,O] rfl rfl (any_of HT_.out (by kernel_rfl)) (fun _ _ _ h => h) (Or.inl ⟨by rfl, ?_⟩) ?_ ?_
       rotate_left
       ·intro w'
        go_simp
        with_reducible rfl
       rotate_left
       ·simp only [Act.put, List.setIfInBounds_toArray, List.set_cons_zero, List.set_cons_succ, i64_w, i32_w]
        rfl
       refine last_ (i := 14) (N := none) #[Y,Y,Y,Y,Y,Y,Y,Y,Y,Y,Y,Y,Y,Y,Y] rfl rfl (one_of HT_.out (by kernel_rfl)) (by decide) (fun K hK => ?_)
       have hs31 : w28.cell? ⟨gb243, 3, none⟩ = some (.string x244003_1) := (blk_cell BK243.out 3).trans rfl
       have hfs31 := blk_frozen BK243.out 3
       have hns31_0 := NB230_243.out
       have hms31_0 := NB243_230.out
       refine skip_ (w1 := ?_) (by rfl) rfl ?_ ?_
       rotate_left
       ·go_simp
        rfl
       refine hK.out _ _ ?_
       clear hK K
       refine done_ (done_of HT_.out (by kernel_rfl)) ?_
       try go_wp2
       go_roundg k1
       case measure => have := HK1.out; omega
       case rel => exact ⟨(wrap64 (x4_1 + 1)), (t248), (t249), (x244003_1 ++ (strOfNums y250)), (by first | rfl | (simp; done) | (simp [*]; done)), H', ⟨by have := HK1.out; omega⟩, ⟨by (with_reducible repeat (first | refine blk_drewN ?_ _ | refine blk_drew ?_ | refine blk_alloc ?_ _)); refine blk_far ?_ NB230_243.out _; (with_reducible repeat (first | refine blk_drewN ?_ _ | refine blk_drew ?_ | refine blk_alloc ?_ _)); exact BK230.out⟩, ⟨by (with_reducible repeat (first | refine blk_drewN ?_ _ | refine blk_drew ?_ | refine blk_alloc ?_ _)); refine blk_put (cs := #[.int .i64 t234, .int .i64 t237, .int .i64 (wrap64 (1 + t240)), .string x244003_1]) ?_ 3 _ rfl; (with_reducible repeat (first | refine blk_drewN ?_ _ | refine blk_drew ?_ | refine blk_alloc ?_ _)); exact BK243.out⟩, ⟨by repeat (first | (with_reducible first | exact HI0.out | apply IsS80.alloc | apply IsS80.drewN | apply IsS80.drew | apply IsS80.set_1 | apply IsS80.set_2 | refine IsS80.far ?_ NB0_230.out _ | refine IsS80.far ?_ NB0_243.out _) | exact HI0.out)⟩, ⟨by repeat (first | (with_reducible first | exact HK.out | apply KeepBut.set_ | apply keep_drewN | apply keep_drew | apply keep_alloc | refine keep_far ?_ GW230.out _ | refine keep_far ?_ GW243.out _) | exact HK.out)⟩, ⟨by repeat (first | (with_reducible first | exact HB.out | apply below_alloc | apply pw_below_drewN | apply below_drew1 | refine below_set ?_ (IsS80.ge HI0.out) | refine below_set ?_ GE230.out | refine below_set ?_ GE243.out) | exact HB.out)⟩⟩
      ·rw [if_neg c21] at H
       exact absurd H (by simp)
     ·rw [if_neg c18] at H
      have c18b0 : decide (x4_1 < (wrap64 (1 + t240))) = false := decide_eq_false c18
      clear c18
      have H' := Aside0.mk H
      clear H
      have hnb32 := NB243_230.out
      have hnc32 := NB230_243.out
      have hnb33 := NB243_0.out
      have hnc33 := NB0_243.out
      have hcz34_0 : wr.cell? ⟨gb243, 0, none⟩ = some (.int .i64 t234) := (blk_cell BK243.out 0).trans rfl
      have hcz34_1 : wr.cell? ⟨gb243, 1, none⟩ = some (.int .i64 t237) := (blk_cell BK243.out 1).trans rfl
      have hcz34_2 : wr.cell? ⟨gb243, 2, none⟩ = some (.int .i64 (wrap64 (1 + t240))) := (blk_cell BK243.out 2).trans rfl
      have hcz34_3 : wr.cell? ⟨gb243, 3, none⟩ = some (.string x244003_1) := (blk_cell BK243.out 3).trans rfl
      have hfz34_0 := blk_frozen BK243.out 0
      have hfz34_1 := blk_frozen BK243.out 1
      have hfz34_2 := blk_frozen BK243.out 2
      have hfz34_3 := blk_frozen BK243.out 3
      go_wp2
      go_meet
      case rel => exact ⟨_, (x1001_1), (x1002_1), ((wrap64 (1 + t240))), (x244003_1), H', ⟨by have := HK1.out; first | omega | exact Nat.le_refl _⟩, ⟨by (with_reducible repeat (first | refine blk_drewN ?_ _ | refine blk_drew ?_ | refine blk_alloc ?_ _)); exact BK230.out⟩, ⟨by (with_reducible repeat (first | refine blk_drewN ?_ _ | refine blk_drew ?_ | refine blk_alloc ?_ _)); exact BK243.out⟩, ⟨by repeat (first | (with_reducible first | exact HI0.out | apply IsS80.alloc | apply IsS80.drewN | apply IsS80.drew | apply IsS80.set_1 | apply IsS80.set_2 | refine IsS80.far ?_ NB0_230.out _ | refine IsS80.far ?_ NB0_243.out _) | exact HI0.out)⟩, ⟨by repeat (first | (with_reducible first | exact HK.out | apply KeepBut.set_ | apply keep_drewN | apply keep_drew | apply keep_alloc | refine keep_far ?_ GW230.out _ | refine keep_far ?_ GW243.out _) | exact HK.out)⟩, ⟨by repeat (first | (with_reducible first | exact HB.out | apply below_alloc | apply pw_below_drewN | apply below_drew1 | refine below_set ?_ (IsS80.ge HI0.out) | refine below_set ?_ GE230.out | refine below_set ?_ GE243.out) | exact HB.out)⟩⟩
  ·rw [if_neg c17] at H
   have c17b0 : (t234 == 1) = false := beq_eq_false_iff_ne.mpr c17
   have c17b1 : (t234 != 1) = true := bne_iff_ne.mpr c17
   (first | rw [c17b0] | (simp only [i64_w, i32_w]; rw [c17b0]) | skip)
   by_cases c35 : t234 = 3
   ·rw [if_pos c35] at H
    have c35b0 : (t234 == 3) = true := beq_iff_eq.mpr c35
    have c35b1 : (t234 != 3) = false := bne_eq_false_iff_eq.mpr c35
    clear c35
    have H' := Aside0.mk H
    clear H
    have hnb36 := NB243_230.out
    have hnc36 := NB230_243.out
    have hnb37 := NB243_0.out
    have hnc37 := NB0_243.out
    have hcz38_0 : w13.cell? ⟨gb243, 0, none⟩ = some (.int .i64 0) := (blk_cell BK243.out 0).trans rfl
    have hcz38_1 : w13.cell? ⟨gb243, 1, none⟩ = some (.int .i64 0) := (blk_cell BK243.out 1).trans rfl
    have hcz38_2 : w13.cell? ⟨gb243, 2, none⟩ = some (.int .i64 0) := (blk_cell BK243.out 2).trans rfl
    have hcz38_3 : w13.cell? ⟨gb243, 3, none⟩ = some (.string (⟨#[]⟩ : ByteArray)) := (blk_cell BK243.out 3).trans rfl
    have hfz38_0 := blk_frozen BK243.out 0
    have hfz38_1 := blk_frozen BK243.out 1
    have hfz38_2 := blk_frozen BK243.out 2
    have hfz38_3 := blk_frozen BK243.out 3
    go_wp2
    go_meet
    case rel => exact ⟨_, (t241), (t242), (0), ((⟨#[]⟩ : ByteArray)), H', ⟨by first | omega | exact Nat.le_refl _⟩, ⟨by (with_reducible repeat (first | refine blk_drewN ?_ _ | refine blk_drew ?_ | refine blk_alloc ?_ _)); refine blk_far ?_ NB230_243.out _; (with_reducible repeat (first | refine blk_drewN ?_ _ | refine blk_drew ?_ | refine blk_alloc ?_ _)); refine blk_far ?_ NB230_243.out _; (with_reducible repeat (first | refine blk_drewN ?_ _ | refine blk_drew ?_ | refine blk_alloc ?_ _)); refine blk_far ?_ NB230_243.out _; (with_reducible repeat (first | refine blk_drewN ?_ _ | refine blk_drew ?_ | refine blk_alloc ?_ _)); refine blk_far ?_ NB230_243.out _; (with_reducible repeat (first | refine blk_drewN ?_ _ | refine blk_drew ?_ | refine blk_alloc ?_ _)); refine blk_far ?_ NB230_243.out _; (with_reducible repeat (first | refine blk_drewN ?_ _ | refine blk_drew ?_ | refine blk_alloc ?_ _)); exact BK230.out⟩, ⟨by (with_reducible repeat (first | refine blk_drewN ?_ _ | refine blk_drew ?_ | refine blk_alloc ?_ _)); refine blk_put (cs := #[.int .i64 t234, .int .i64 t237, .int .i64 (wrap64 (1 + t240)), .string (⟨#[]⟩ : ByteArray)]) ?_ 2 _ rfl; (with_reducible repeat (first | refine blk_drewN ?_ _ | refine blk_drew ?_ | refine blk_alloc ?_ _)); refine blk_put (cs := #[.int .i64 t234, .int .i64 t237, .int .i64 (wrap64 (1 + t240)), .string (⟨#[]⟩ : ByteArray)]) ?_ 3 _ rfl; (with_reducible repeat (first | refine blk_drewN ?_ _ | refine blk_drew ?_ | refine blk_alloc ?_ _)); refine blk_put (cs := #[.int .i64 t234, .int .i64 t237, .int .i64 0, .string (⟨#[]⟩ : ByteArray)]) ?_ 2 _ rfl; (with_reducible repeat (first | refine blk_drewN ?_ _ | refine blk_drew ?_ | refine blk_alloc ?_ _)); refine blk_put (cs := #[.int .i64 t234, .int .i64 0, .int .i64 0, .string (⟨#[]⟩ : ByteArray)]) ?_ 1 _ rfl; (with_reducible repeat (first | refine blk_drewN ?_ _ | refine blk_drew ?_ | refine blk_alloc ?_ _)); refine blk_put (cs := #[.int .i64 0, .int .i64 0, .int .i64 0, .string (⟨#[]⟩ : ByteArray)]) ?_ 0 _ rfl; (with_reducible repeat (first | refine blk_drewN ?_ _ | refine blk_drew ?_ | refine blk_alloc ?_ _)); exact BK243.out⟩, ⟨by repeat (first | (with_reducible first | exact HI0.out | apply IsS80.alloc | apply IsS80.drewN | apply IsS80.drew | apply IsS80.set_1 | apply IsS80.set_2 | refine IsS80.far ?_ NB0_230.out _ | refine IsS80.far ?_ NB0_243.out _) | exact HI0.out)⟩, ⟨by repeat (first | (with_reducible first | exact HK.out | apply KeepBut.set_ | apply keep_drewN | apply keep_drew | apply keep_alloc | refine keep_far ?_ GW230.out _ | refine keep_far ?_ GW243.out _) | exact HK.out)⟩, ⟨by repeat (first | (with_reducible first | exact HB.out | apply below_alloc | apply pw_below_drewN | apply below_drew1 | refine below_set ?_ (IsS80.ge HI0.out) | refine below_set ?_ GE230.out | refine below_set ?_ GE243.out) | exact HB.out)⟩⟩
   ·rw [if_neg c35] at H
    have c35b0 : (t234 == 3) = false := beq_eq_false_iff_ne.mpr c35
    have c35b1 : (t234 != 3) = true := bne_iff_ne.mpr c35
    have H' := Aside0.mk H
    clear H
    go_wp2
    go_meet
    case rel => exact ⟨_, (t241), (t242), (wrap64 (1 + t240)), ((⟨#[]⟩ : ByteArray)), H', ⟨by first | omega | exact Nat.le_refl _⟩, ⟨by (with_reducible repeat (first | refine blk_drewN ?_ _ | refine blk_drew ?_ | refine blk_alloc ?_ _)); refine blk_far ?_ NB230_243.out _; (with_reducible repeat (first | refine blk_drewN ?_ _ | refine blk_drew ?_ | refine blk_alloc ?_ _)); refine blk_far ?_ NB230_243.out _; (with_reducible repeat (first | refine blk_drewN ?_ _ | refine blk_drew ?_ | refine blk_alloc ?_ _)); refine blk_far ?_ NB230_243.out _; (with_reducible repeat (first | refine blk_drewN ?_ _ | refine blk_drew ?_ | refine blk_alloc ?_ _)); refine blk_far ?_ NB230_243.out _; (with_reducible repeat (first | refine blk_drewN ?_ _ | refine blk_drew ?_ | refine blk_alloc ?_ _)); exact BK230.out⟩, ⟨by (with_reducible repeat (first | refine blk_drewN ?_ _ | refine blk_drew ?_ | refine blk_alloc ?_ _)); refine blk_put (cs := #[.int .i64 t234, .int .i64 t237, .int .i64 (wrap64 (1 + t240)), .string (⟨#[]⟩ : ByteArray)]) ?_ 3 _ rfl; (with_reducible repeat (first | refine blk_drewN ?_ _ | refine blk_drew ?_ | refine blk_alloc ?_ _)); refine blk_put (cs := #[.int .i64 t234, .int .i64 t237, .int .i64 0, .string (⟨#[]⟩ : ByteArray)]) ?_ 2 _ rfl; (with_reducible repeat (first | refine blk_drewN ?_ _ | refine blk_drew ?_ | refine blk_alloc ?_ _)); refine blk_put (cs := #[.int .i64 t234, .int .i64 0, .int .i64 0, .string (⟨#[]⟩ : ByteArray)]) ?_ 1 _ rfl; (with_reducible repeat (first | refine blk_drewN ?_ _ | refine blk_drew ?_ | refine blk_alloc ?_ _)); refine blk_put (cs := #[.int .i64 0, .int .i64 0, .int .i64 0, .string (⟨#[]⟩ : ByteArray)]) ?_ 0 _ rfl; (with_reducible repeat (first | refine blk_drewN ?_ _ | refine blk_drew ?_ | refine blk_alloc ?_ _)); exact BK243.out⟩, ⟨by repeat (first | (with_reducible first | exact HI0.out | apply IsS80.alloc | apply IsS80.drewN | apply IsS80.drew | apply IsS80.set_1 | apply IsS80.set_2 | refine IsS80.far ?_ NB0_230.out _ | refine IsS80.far ?_ NB0_243.out _) | exact HI0.out)⟩, ⟨by repeat (first | (with_reducible first | exact HK.out | apply KeepBut.set_ | apply keep_drewN | apply keep_drew | apply keep_alloc | refine keep_far ?_ GW230.out _ | refine keep_far ?_ GW243.out _) | exact HK.out)⟩, ⟨by repeat (first | (with_reducible first | exact HB.out | apply below_alloc | apply pw_below_drewN | apply below_drew1 | refine below_set ?_ (IsS80.ge HI0.out) | refine below_set ?_ GE230.out | refine below_set ?_ GE243.out) | exact HB.out)⟩⟩
 case rest =>
  clear HC5
  try clear c1
  try clear c2
  try clear p2
  try clear c3
  try clear hcv3
  try clear c6
  try clear p6
  try clear c8
  try clear c14
  try clear c15
  try clear c17
  try clear c17b0
  try clear c17b1
  try clear c18
  try clear c18b0
  try clear c21
  try clear c21b0
  try clear c21b1
  try clear c21b2
  try clear c22
  try clear c23
  try clear hcv30
  try clear c32
  try clear c33
  try clear c35
  try clear c35b0
  try clear c35b1
  try clear c36
  try clear c37
  try clear hcz16_0
  try clear hcz16_1
  try clear hcz16_2
  try clear hcz16_3
  try clear hcz24_0
  try clear hcz24_1
  try clear hcz24_2
  try clear hcz24_3
  try clear hcz34_0
  try clear hcz34_1
  try clear hcz34_2
  try clear hcz34_3
  try clear hcz38_0
  try clear hcz38_1
  try clear hcz38_2
  try clear hcz38_3
  try clear hfz16_0
  try clear hfz16_1
  try clear hfz16_2
  try clear hfz16_3
  try clear hfz24_0
  try clear hfz24_1
  try clear hfz24_2
  try clear hfz24_3
  try clear hfz34_0
  try clear hfz34_1
  try clear hfz34_2
  try clear hfz34_3
  try clear hfz38_0
  try clear hfz38_1
  try clear hfz38_2
  try clear hfz38_3
  try clear p2
  try clear p6
  obtain ⟨kq, x1001_4, x1002_4, x244002_4, x244003_4, HA, HJ4, BK230, BK243, HI0, HK, HB⟩ := hcut
  cases kq with
  | zero => exact absurd HA.out (by simp [spec_l1Cur_record.j1])
  | succ kj4 =>
   have H := HA.out
   clear HA
   simp only [spec_l1Cur_record.j1] at H
   replace H := Option.bind_eq_some_iff.mp H
   obtain ⟨⟨t253, t254, t255⟩, A390, H⟩ := H
   replace H : (if t253 = 0 then ((spec_l1Cur_among.f s0_0 t254 t255 (([(-1), 15, 200, 201] : List Int))).bind fun bt259 => (some (t234, bt259.1, x244002_4, x244003_4, bt259.2.1, bt259.2.2))) else (if t253 = 1 then ((spec_l1Cur_pick.f s0_0 t254 t255 6).bind fun bt262 => (some (bt262.1, t237, x244002_4, x244003_4, bt262.2.1, bt262.2.2))) else (if t253 = 2 then (if x244003_4.size + 1 ≤ 9223372036854775807 then (some (t234, t237, x244002_4, x244003_4 ++ (⟨#[120]⟩ : ByteArray), t254, t255)) else (none)) else (some (t234, t237, x244002_4, x244003_4, t254, t255))))) = some (r1, r2, r3, r4, r5, r6) := H
   have A39 := Aside0.mk A390
   clear A390
   by_cases c40 : t253 = 0
   ·rw [if_pos c40] at H
    have c40b0 : (t253 == 0) = true := beq_iff_eq.mpr c40
    have c40b1 : (t253 != 0) = false := bne_eq_false_iff_eq.mpr c40
    clear c40
    obtain ⟨y256, hy256⟩ : ∃ y_ : List Int, y_ = (([(-1), 15, 200, 201] : List Int)) := ⟨_, rfl⟩
    replace H : ((spec_l1Cur_among.f s0_0 t254 t255 y256).bind fun bt259 => (some (t234, bt259.1, x244002_4, x244003_4, bt259.2.1, bt259.2.2))) = some (r1, r2, r3, r4, r5, r6) := by first | (rw [hy256]; with_reducible exact H) | (have H2_ := (Option.bind_some _ _).symm.trans H; rw [hy256]; with_reducible exact H2_) | (have H2_ := (Option.bind_some _ _).symm.trans H; with_reducible exact H2_) | with_reducible exact H | (rw [hy256]; exact H) | exact H
    have Ny256 := Aside0.mk hy256
    clear hy256
    replace H := Option.bind_eq_some_iff.mp H
    obtain ⟨⟨t259, t260, t261⟩, A410, H⟩ := H
    replace H : (some (t234, t259, x244002_4, x244003_4, t260, t261)) = some (r1, r2, r3, r4, r5, r6) := H
    have A41 := Aside0.mk A410
    clear A410
    simp only [Option.some.injEq, Prod.mk.injEq] at H
    obtain ⟨rfl, rfl, rfl, rfl, rfl, rfl⟩ := H
    go_wp2_with (first | ((with_reducible refine gate_callee (f := 63) rfl ?_); refine goesL_ (some 42) rfl rfl Try.func63 (by kernel_rfl) rfl #[.pointer (some ⟨g, 0, none⟩), .int .i64 60] rfl Mt ?_; (with_reducible refine (spec_l1Cur_pick.calls g s0_0 x1001_4 x1002_4 60 t253 t254 t255 w0 _ ?side1 ?side2 A39.out).mono ?_); (case side1 => repeat (first | (with_reducible first | exact HI0.out | apply IsS80.alloc | apply IsS80.drewN | apply IsS80.drew | apply IsS80.set_1 | apply IsS80.set_2 | refine IsS80.far ?_ NB0_230.out _ | refine IsS80.far ?_ NB0_243.out _) | exact HI0.out)); (case side2 => repeat (first | (with_reducible first | exact HB.out | apply below_alloc | apply pw_below_drewN | apply below_drew1 | refine below_set ?_ (IsS80.ge HI0.out) | refine below_set ?_ GE230.out | refine below_set ?_ GE243.out) | exact HB.out)); rintro e w42 ⟨rfl, hi, hb, hk⟩; refine ⟨_, rfl, ?_⟩; have n0_ := Aside0.mk (KeepBut.blk hk (g' := gb230) (o := .cells #[.int .i64 0, .int .i64 0, .int .i64 0, .string (⟨#[]⟩ : ByteArray)] 27 (0, 0)) (by (with_reducible repeat (first | refine blk_drewN ?_ _ | refine blk_drew ?_ | refine blk_alloc ?_ _)); exact BK230.out) NB230_0.out (by simp)); have n1_ := Aside0.mk (KeepBut.blk hk (g' := gb243) (o := .cells #[.int .i64 t234, .int .i64 t237, .int .i64 x244002_4, .string x244003_4] 27 (0, 0)) (by (with_reducible repeat (first | refine blk_drewN ?_ _ | refine blk_drew ?_ | refine blk_alloc ?_ _)); exact BK243.out) NB243_0.out (by simp)); have n2_ := Aside0.mk (KeepBut.trans (by repeat (first | (with_reducible first | exact HK.out | apply KeepBut.set_ | apply keep_drewN | apply keep_drew | apply keep_alloc | refine keep_far ?_ GW230.out _ | refine keep_far ?_ GW243.out _) | exact HK.out)) hk (.inl rfl)); have n3_ := Aside0.mk (hb); have n4_ := Aside0.mk (hi); clear BK230; clear BK243; clear HK; clear HB; clear HI0; have BK230 := n0_; have BK243 := n1_; have HK := n2_; have HB := n3_; have HI0 := n4_; clear n0_ n1_ n2_ n3_ n4_; (try clear hb); (try clear hb2); (try clear hk); (try clear hi)) | ((with_reducible refine gate_dst (N := 46) rfl ?_); refine Kd.R_lit (Kd.int .i64) _ 3 ?hg (N := 46) ?hd (xs := ([(-1), 15, 200, 201] : List Int)) (inner := [.int .i64 (-1), .int .i64 15, .int .i64 200, .int .i64 201]) (ok := fun _ => True) (okp := fun _ => True) ?hr ?hp (fun _ hk => hk) trivial (Below.refl _ _) (Nat.le_refl _) (by simp) ?_; (case hd => rfl); (case hg => rfl); (case hr => first | (go_simp; done) | (go_simp; rfl)); (case hp => exact (Reps.one (show Kd.M (Kd.int .i64) _ _ _ (-1) [.int .i64 (-1)] from rfl) (Reps.one (show Kd.M (Kd.int .i64) _ _ _ 15 [.int .i64 15] from rfl) (Reps.one (show Kd.M (Kd.int .i64) _ _ _ 200 [.int .i64 200] from rfl) (Reps.one (show Kd.M (Kd.int .i64) _ _ _ 201 [.int .i64 201] from rfl) (Reps.none _ _)))))); intro v257 w43 ho44 hb hg_ hnew_; clear hg_ hnew_; (first | rw [← Ny256.out] at ho44 | (simp only [Int.reduceToNat] at ho44; rw [← Ny256.out] at ho44)); have n0_ := Aside0.mk (Kd.R_lower ho44 (keep_size (w := w) (g := g) (row := none) (by repeat (first | (with_reducible first | exact HK.out | apply KeepBut.set_ | apply keep_drewN | apply keep_drew | apply keep_alloc | refine keep_far ?_ GW230.out _ | refine keep_far ?_ GW243.out _) | exact HK.out)))); have n1_ := Aside0.mk (blk_below (g := gb230) (o := .cells #[.int .i64 0, .int .i64 0, .int .i64 0, .string (⟨#[]⟩ : ByteArray)] 27 (0, 0)) (by (with_reducible repeat (first | refine blk_drewN ?_ _ | refine blk_drew ?_ | refine blk_alloc ?_ _)); exact BK230.out) hb); have n2_ := Aside0.mk (blk_below (g := gb243) (o := .cells #[.int .i64 t234, .int .i64 t237, .int .i64 x244002_4, .string x244003_4] 27 (0, 0)) (by (with_reducible repeat (first | refine blk_drewN ?_ _ | refine blk_drew ?_ | refine blk_alloc ?_ _)); exact BK243.out) hb); have n3_ := Aside0.mk (IsS80.below (by repeat (first | (with_reducible first | exact HI0.out | apply IsS80.alloc | apply IsS80.drewN | apply IsS80.drew | apply IsS80.set_1 | apply IsS80.set_2 | refine IsS80.far ?_ NB0_230.out _ | refine IsS80.far ?_ NB0_243.out _) | exact HI0.out)) hb); have n4_ := Aside0.mk (KeepBut.trans (by repeat (first | (with_reducible first | exact HK.out | apply KeepBut.set_ | apply keep_drewN | apply keep_drew | apply keep_alloc | refine keep_far ?_ GW230.out _ | refine keep_far ?_ GW243.out _) | exact HK.out)) (KeepBut.of_below hb g none) (.inl rfl)); have n5_ := Aside0.mk (below_step (by repeat (first | (with_reducible first | exact HB.out | apply below_alloc | apply pw_below_drewN | apply below_drew1 | refine below_set ?_ (IsS80.ge HI0.out) | refine below_set ?_ GE230.out | refine below_set ?_ GE243.out) | exact HB.out)) hb); clear BK230; clear BK243; clear HI0; clear HK; clear HB; have HO258 := n0_; have BK230 := n1_; have BK243 := n2_; have HI0 := n3_; have HK := n4_; have HB := n5_; clear n0_ n1_ n2_ n3_ n4_ n5_; clear hb ho44; obtain ⟨Ao45, co45, eo45⟩ := Kd.R_slice HO258.out; subst eo45) | ((with_reducible refine gate_callee (f := 67) rfl ?_); refine goesL_ (some 47) rfl rfl Try.func67 (by kernel_rfl) rfl #[.pointer (some ⟨g, 0, none⟩), .slice Ao45 y256.length co45] rfl Mt ?_; (with_reducible refine (spec_l1Cur_among.calls g s0_0 t254 t255 _ _ y256 t259 t260 t261 w0 _ ?side1 ?side2 ?side3 ?side4 ?side5 A41.out).mono ?_); (case side1 => repeat (first | (with_reducible first | exact HI0.out | apply IsS80.alloc | apply IsS80.drewN | apply IsS80.drew | apply IsS80.set_1 | apply IsS80.set_2 | refine IsS80.far ?_ NB0_230.out _ | refine IsS80.far ?_ NB0_243.out _) | exact HI0.out)); (case side2 => repeat (first | (with_reducible first | exact HB.out | apply below_alloc | apply pw_below_drewN | apply below_drew1 | refine below_set ?_ (IsS80.ge HI0.out) | refine below_set ?_ GE230.out | refine below_set ?_ GE243.out) | exact HB.out)); (case side3 => repeat (first | exact (Kd.R_reads' HO258.out).2.2 | (with_reducible refine Kd.C_alloc ?_ _) | (with_reducible refine Kd.C_drewN ?_ _) | (with_reducible refine Kd.C_drew ?_))); (case side4 => exact (Kd.R_reads' HO258.out).2.1); (case side5 => exact far_slice (IsS80.own_ne HI0.out HO258.out (by decide))); rintro e w46 ⟨rfl, hi, hb, hk⟩; refine ⟨_, rfl, ?_⟩; have n0_ := Aside0.mk (KeepBut.blk hk (g' := gb230) (o := .cells #[.int .i64 0, .int .i64 0, .int .i64 0, .string (⟨#[]⟩ : ByteArray)] 27 (0, 0)) (by (with_reducible repeat (first | refine blk_drewN ?_ _ | refine blk_drew ?_ | refine blk_alloc ?_ _)); exact BK230.out) NB230_0.out (by simp)); have n1_ := Aside0.mk (KeepBut.blk hk (g' := gb243) (o := .cells #[.int .i64 t234, .int .i64 t237, .int .i64 x244002_4, .string x244003_4] 27 (0, 0)) (by (with_reducible repeat (first | refine blk_drewN ?_ _ | refine blk_drew ?_ | refine blk_alloc ?_ _)); exact BK243.out) NB243_0.out (by simp)); have n2_ := Aside0.mk (Kd.R_mono (Kd.R_keep (IsS80.apart (show IsS80 w0 _ g s0_0 t254 t255 from by repeat (first | (with_reducible first | exact HI0.out | apply IsS80.alloc | apply IsS80.drewN | apply IsS80.drew | apply IsS80.set_1 | apply IsS80.set_2 | refine IsS80.far ?_ NB0_230.out _ | refine IsS80.far ?_ NB0_243.out _) | exact HI0.out)) (by (with_reducible repeat (first | apply Kd.R_alloc | apply Kd.R_drewN | apply Kd.R_drew)); exact HO258.out) (by decide)) hk (fun _ h => h.2)) (fun _ h => h.1)); have n3_ := Aside0.mk (KeepBut.trans (by repeat (first | (with_reducible first | exact HK.out | apply KeepBut.set_ | apply keep_drewN | apply keep_drew | apply keep_alloc | refine keep_far ?_ GW230.out _ | refine keep_far ?_ GW243.out _) | exact HK.out)) hk (.inl rfl)); have n4_ := Aside0.mk (hb); have n5_ := Aside0.mk (hi); clear BK230; clear BK243; clear HO258; clear HK; clear HB; clear HI0; have BK230 := n0_; have BK243 := n1_; have HO258 := n2_; have HK := n3_; have HB := n4_; have HI0 := n5_; clear n0_ n1_ n2_ n3_ n4_ n5_; (try clear hb); (try clear hb2); (try clear hk); (try clear hi); have hnb47 := NB243_230.out; have hnc47 := NB230_243.out; have hnb48 := NB243_0.out; have hnc48 := NB0_243.out; have hcz49_0 : w46.cell? ⟨gb243, 0, none⟩ = some (.int .i64 t234) := (blk_cell BK243.out 0).trans rfl; have hcz49_1 : w46.cell? ⟨gb243, 1, none⟩ = some (.int .i64 t237) := (blk_cell BK243.out 1).trans rfl; have hcz49_2 : w46.cell? ⟨gb243, 2, none⟩ = some (.int .i64 x244002_4) := (blk_cell BK243.out 2).trans rfl; have hcz49_3 : w46.cell? ⟨gb243, 3, none⟩ = some (.string x244003_4) := (blk_cell BK243.out 3).trans rfl; have hfz49_0 := blk_frozen BK243.out 0; have hfz49_1 := blk_frozen BK243.out 1; have hfz49_2 := blk_frozen BK243.out 2; have hfz49_3 := blk_frozen BK243.out 3; have hnb50 := NB230_0.out; have hnc50 := NB0_230.out; have hcz51_0 : w46.cell? ⟨gb230, 0, none⟩ = some (.int .i64 0) := (blk_cell BK230.out 0).trans rfl; have hcz51_1 : w46.cell? ⟨gb230, 1, none⟩ = some (.int .i64 0) := (blk_cell BK230.out 1).trans rfl; have hcz51_2 : w46.cell? ⟨gb230, 2, none⟩ = some (.int .i64 0) := (blk_cell BK230.out 2).trans rfl; have hcz51_3 : w46.cell? ⟨gb230, 3, none⟩ = some (.string (⟨#[]⟩ : ByteArray)) := (blk_cell BK230.out 3).trans rfl; have hfz51_0 := blk_frozen BK230.out 0; have hfz51_1 := blk_frozen BK230.out 1; have hfz51_2 := blk_frozen BK230.out 2; have hfz51_3 := blk_frozen BK230.out 3))
    refine bodyPost_ret (results_cell_row rfl _ _ gb230 27 #[.int .i64 t234, .int .i64 t259, .int .i64 x244002_4, .string x244003_4] (0, 0) _ rfl (by (with_reducible repeat (first | refine blk_drewN ?_ _ | refine blk_drew ?_ | refine blk_alloc ?_ _)); refine blk_put (cs := #[.int .i64 t234, .int .i64 t259, .int .i64 x244002_4, .string (⟨#[]⟩ : ByteArray)]) ?_ 3 _ rfl; (with_reducible repeat (first | refine blk_drewN ?_ _ | refine blk_drew ?_ | refine blk_alloc ?_ _)); refine blk_put (cs := #[.int .i64 t234, .int .i64 t259, .int .i64 0, .string (⟨#[]⟩ : ByteArray)]) ?_ 2 _ rfl; (with_reducible repeat (first | refine blk_drewN ?_ _ | refine blk_drew ?_ | refine blk_alloc ?_ _)); refine blk_put (cs := #[.int .i64 t234, .int .i64 0, .int .i64 0, .string (⟨#[]⟩ : ByteArray)]) ?_ 1 _ rfl; (with_reducible repeat (first | refine blk_drewN ?_ _ | refine blk_drew ?_ | refine blk_alloc ?_ _)); refine blk_put (cs := #[.int .i64 0, .int .i64 0, .int .i64 0, .string (⟨#[]⟩ : ByteArray)]) ?_ 0 _ rfl; (with_reducible repeat (first | refine blk_drewN ?_ _ | refine blk_drew ?_ | refine blk_alloc ?_ _)); refine blk_far ?_ NB230_243.out _; (with_reducible repeat (first | refine blk_drewN ?_ _ | refine blk_drew ?_ | refine blk_alloc ?_ _)); exact BK230.out) Try.underlying27 rfl (by kernel_rfl)) rfl ?_
    exact ⟨by first | rfl | (simp [errW_none, errW_some] <;> rfl) | (simp [*, errW_none, errW_some] <;> rfl), by repeat (first | (with_reducible first | exact HI0.out | apply IsS80.alloc | apply IsS80.drewN | apply IsS80.drew | apply IsS80.set_1 | apply IsS80.set_2 | refine IsS80.far ?_ NB0_230.out _ | refine IsS80.far ?_ NB0_243.out _) | exact HI0.out), by repeat (first | (with_reducible first | exact HB.out | apply below_alloc | apply pw_below_drewN | apply below_drew1 | refine below_set ?_ (IsS80.ge HI0.out) | refine below_set ?_ GE230.out | refine below_set ?_ GE243.out) | exact HB.out), by repeat (first | (with_reducible first | exact HK.out | apply KeepBut.set_ | apply keep_drewN | apply keep_drew | apply keep_alloc | refine keep_far ?_ GW230.out _ | refine keep_far ?_ GW243.out _) | exact HK.out)⟩
   ·rw [if_neg c40] at H
    have c40b0 : (t253 == 0) = false := beq_eq_false_iff_ne.mpr c40
    have c40b1 : (t253 != 0) = true := bne_iff_ne.mpr c40
    by_cases c52 : t253 = 1
    ·rw [if_pos c52] at H
     have c52b0 : (t253 == 1) = true := beq_iff_eq.mpr c52
     have c52b1 : (t253 != 1) = false := bne_eq_false_iff_eq.mpr c52
     clear c52
     replace H := Option.bind_eq_some_iff.mp H
     obtain ⟨⟨t262, t263, t264⟩, A530, H⟩ := H
     replace H : (some (t262, t237, x244002_4, x244003_4, t263, t264)) = some (r1, r2, r3, r4, r5, r6) := H
     have A53 := Aside0.mk A530
     clear A530
     simp only [Option.some.injEq, Prod.mk.injEq] at H
     obtain ⟨rfl, rfl, rfl, rfl, rfl, rfl⟩ := H
     go_wp2_with (first | ((with_reducible refine gate_callee (f := 63) rfl ?_); refine goesL_ (some 42) rfl rfl Try.func63 (by kernel_rfl) rfl #[.pointer (some ⟨g, 0, none⟩), .int .i64 60] rfl Mt ?_; (with_reducible refine (spec_l1Cur_pick.calls g s0_0 x1001_4 x1002_4 60 t253 t254 t255 w0 _ ?side1 ?side2 A39.out).mono ?_); (case side1 => repeat (first | (with_reducible first | exact HI0.out | apply IsS80.alloc | apply IsS80.drewN | apply IsS80.drew | apply IsS80.set_1 | apply IsS80.set_2 | refine IsS80.far ?_ NB0_230.out _ | refine IsS80.far ?_ NB0_243.out _) | exact HI0.out)); (case side2 => repeat (first | (with_reducible first | exact HB.out | apply below_alloc | apply pw_below_drewN | apply below_drew1 | refine below_set ?_ (IsS80.ge HI0.out) | refine below_set ?_ GE230.out | refine below_set ?_ GE243.out) | exact HB.out)); rintro e w54 ⟨rfl, hi, hb, hk⟩; refine ⟨_, rfl, ?_⟩; have n0_ := Aside0.mk (KeepBut.blk hk (g' := gb230) (o := .cells #[.int .i64 0, .int .i64 0, .int .i64 0, .string (⟨#[]⟩ : ByteArray)] 27 (0, 0)) (by (with_reducible repeat (first | refine blk_drewN ?_ _ | refine blk_drew ?_ | refine blk_alloc ?_ _)); exact BK230.out) NB230_0.out (by simp)); have n1_ := Aside0.mk (KeepBut.blk hk (g' := gb243) (o := .cells #[.int .i64 t234, .int .i64 t237, .int .i64 x244002_4, .string x244003_4] 27 (0, 0)) (by (with_reducible repeat (first | refine blk_drewN ?_ _ | refine blk_drew ?_ | refine blk_alloc ?_ _)); exact BK243.out) NB243_0.out (by simp)); have n2_ := Aside0.mk (KeepBut.trans (by repeat (first | (with_reducible first | exact HK.out | apply KeepBut.set_ | apply keep_drewN | apply keep_drew | apply keep_alloc | refine keep_far ?_ GW230.out _ | refine keep_far ?_ GW243.out _) | exact HK.out)) hk (.inl rfl)); have n3_ := Aside0.mk (hb); have n4_ := Aside0.mk (hi); clear BK230; clear BK243; clear HK; clear HB; clear HI0; have BK230 := n0_; have BK243 := n1_; have HK := n2_; have HB := n3_; have HI0 := n4_; clear n0_ n1_ n2_ n3_ n4_; (try clear hb); (try clear hb2); (try clear hk); (try clear hi)) | ((with_reducible refine gate_callee (f := 63) rfl ?_); refine goesL_ (some 52) rfl rfl Try.func63 (by kernel_rfl) rfl #[.pointer (some ⟨g, 0, none⟩), .int .i64 6] rfl Mt ?_; (with_reducible refine (spec_l1Cur_pick.calls g s0_0 t254 t255 6 t262 t263 t264 w0 _ ?side1 ?side2 A53.out).mono ?_); (case side1 => repeat (first | (with_reducible first | exact HI0.out | apply IsS80.alloc | apply IsS80.drewN | apply IsS80.drew | apply IsS80.set_1 | apply IsS80.set_2 | refine IsS80.far ?_ NB0_230.out _ | refine IsS80.far ?_ NB0_243.out _) | exact HI0.out)); (case side2 => repeat (first | (with_reducible first | exact HB.out | apply below_alloc | apply pw_below_drewN | apply below_drew1 | refine below_set ?_ (IsS80.ge HI0.out) | refine below_set ?_ GE230.out | refine below_set ?_ GE243.out) | exact HB.out)); rintro e w55 ⟨rfl, hi, hb, hk⟩; refine ⟨_, rfl, ?_⟩; have n0_ := Aside0.mk (KeepBut.blk hk (g' := gb230) (o := .cells #[.int .i64 0, .int .i64 0, .int .i64 0, .string (⟨#[]⟩ : ByteArray)] 27 (0, 0)) (by (with_reducible repeat (first | refine blk_drewN ?_ _ | refine blk_drew ?_ | refine blk_alloc ?_ _)); exact BK230.out) NB230_0.out (by simp)); have n1_ := Aside0.mk (KeepBut.blk hk (g' := gb243) (o := .cells #[.int .i64 t234, .int .i64 t237, .int .i64 x244002_4, .string x244003_4] 27 (0, 0)) (by (with_reducible repeat (first | refine blk_drewN ?_ _ | refine blk_drew ?_ | refine blk_alloc ?_ _)); exact BK243.out) NB243_0.out (by simp)); have n2_ := Aside0.mk (KeepBut.trans (by repeat (first | (with_reducible first | exact HK.out | apply KeepBut.set_ | apply keep_drewN | apply keep_drew | apply keep_alloc | refine keep_far ?_ GW230.out _ | refine keep_far ?_ GW243.out _) | exact HK.out)) hk (.inl rfl)); have n3_ := Aside0.mk (hb); have n4_ := Aside0.mk (hi); clear BK230; clear BK243; clear HK; clear HB; clear HI0; have BK230 := n0_; have BK243 := n1_; have HK := n2_; have HB := n3_; have HI0 := n4_; clear n0_ n1_ n2_ n3_ n4_; (try clear hb); (try clear hb2); (try clear hk); (try clear hi); have hnb56 := NB243_230.out; have hnc56 := NB230_243.out; have hnb57 := NB243_0.out; have hnc57 := NB0_243.out; have hcz58_0 : w55.cell? ⟨gb243, 0, none⟩ = some (.int .i64 t234) := (blk_cell BK243.out 0).trans rfl; have hcz58_1 : w55.cell? ⟨gb243, 1, none⟩ = some (.int .i64 t237) := (blk_cell BK243.out 1).trans rfl; have hcz58_2 : w55.cell? ⟨gb243, 2, none⟩ = some (.int .i64 x244002_4) := (blk_cell BK243.out 2).trans rfl; have hcz58_3 : w55.cell? ⟨gb243, 3, none⟩ = some (.string x244003_4) := (blk_cell BK243.out 3).trans rfl; have hfz58_0 := blk_frozen BK243.out 0; have hfz58_1 := blk_frozen BK243.out 1; have hfz58_2 := blk_frozen BK243.out 2; have hfz58_3 := blk_frozen BK243.out 3; have hnb59 := NB230_0.out; have hnc59 := NB0_230.out; have hcz60_0 : w55.cell? ⟨gb230, 0, none⟩ = some (.int .i64 0) := (blk_cell BK230.out 0).trans rfl; have hcz60_1 : w55.cell? ⟨gb230, 1, none⟩ = some (.int .i64 0) := (blk_cell BK230.out 1).trans rfl; have hcz60_2 : w55.cell? ⟨gb230, 2, none⟩ = some (.int .i64 0) := (blk_cell BK230.out 2).trans rfl; have hcz60_3 : w55.cell? ⟨gb230, 3, none⟩ = some (.string (⟨#[]⟩ : ByteArray)) := (blk_cell BK230.out 3).trans rfl; have hfz60_0 := blk_frozen BK230.out 0; have hfz60_1 := blk_frozen BK230.out 1; have hfz60_2 := blk_frozen BK230.out 2; have hfz60_3 := blk_frozen BK230.out 3))
     refine bodyPost_ret (results_cell_row rfl _ _ gb230 27 #[.int .i64 t262, .int .i64 t237, .int .i64 x244002_4, .string x244003_4] (0, 0) _ rfl (by (with_reducible repeat (first | refine blk_drewN ?_ _ | refine blk_drew ?_ | refine blk_alloc ?_ _)); refine blk_put (cs := #[.int .i64 t262, .int .i64 t237, .int .i64 x244002_4, .string (⟨#[]⟩ : ByteArray)]) ?_ 3 _ rfl; (with_reducible repeat (first | refine blk_drewN ?_ _ | refine blk_drew ?_ | refine blk_alloc ?_ _)); refine blk_put (cs := #[.int .i64 t262, .int .i64 t237, .int .i64 0, .string (⟨#[]⟩ : ByteArray)]) ?_ 2 _ rfl; (with_reducible repeat (first | refine blk_drewN ?_ _ | refine blk_drew ?_ | refine blk_alloc ?_ _)); refine blk_put (cs := #[.int .i64 t262, .int .i64 0, .int .i64 0, .string (⟨#[]⟩ : ByteArray)]) ?_ 1 _ rfl; (with_reducible repeat (first | refine blk_drewN ?_ _ | refine blk_drew ?_ | refine blk_alloc ?_ _)); refine blk_put (cs := #[.int .i64 0, .int .i64 0, .int .i64 0, .string (⟨#[]⟩ : ByteArray)]) ?_ 0 _ rfl; (with_reducible repeat (first | refine blk_drewN ?_ _ | refine blk_drew ?_ | refine blk_alloc ?_ _)); refine blk_far ?_ NB230_243.out _; (with_reducible repeat (first | refine blk_drewN ?_ _ | refine blk_drew ?_ | refine blk_alloc ?_ _)); exact BK230.out) Try.underlying27 rfl (by kernel_rfl)) rfl ?_
     exact ⟨by first | rfl | (simp [errW_none, errW_some] <;> rfl) | (simp [*, errW_none, errW_some] <;> rfl), by repeat (first | (with_reducible first | exact HI0.out | apply IsS80.alloc | apply IsS80.drewN | apply IsS80.drew | apply IsS80.set_1 | apply IsS80.set_2 | refine IsS80.far ?_ NB0_230.out _ | refine IsS80.far ?_ NB0_243.out _) | exact HI0.out), by repeat (first | (with_reducible first | exact HB.out | apply below_alloc | apply pw_below_drewN | apply below_drew1 | refine below_set ?_ (IsS80.ge HI0.out) | refine below_set ?_ GE230.out | refine below_set ?_ GE243.out) | exact HB.out), by repeat (first | (with_reducible first | exact HK.out | apply KeepBut.set_ | apply keep_drewN | apply keep_drew | apply keep_alloc | refine keep_far ?_ GW230.out _ | refine keep_far ?_ GW243.out _) | exact HK.out)⟩
    ·rw [if_neg c52] at H
     have c52b0 : (t253 == 1) = false := beq_eq_false_iff_ne.mpr c52
     have c52b1 : (t253 != 1) = true := bne_iff_ne.mpr c52
     by_cases c61 : t253 = 2
     ·rw [if_pos c61] at H
      have c61b0 : (t253 == 2) = true := beq_iff_eq.mpr c61
      have c61b1 : (t253 != 2) = false := bne_eq_false_iff_eq.mpr c61
      clear c61
      by_cases c62 : x244003_4.size + 1 ≤ 9223372036854775807
      ·rw [if_pos c62] at H
       have c62b0 := eq_true c62
       have c62b1 : decide (x244003_4.size + 1 ≤ 9223372036854775807) = true := decide_eq_true c62
       try have c62b2 : (9223372036854775807 < x244003_4.size + 1) = False := eq_false (Nat.not_lt.2 c62)
       simp only [Option.some.injEq, Prod.mk.injEq] at H
       obtain ⟨rfl, rfl, rfl, rfl, rfl, rfl⟩ := H
       go_wp2_with (first | ((with_reducible refine gate_callee (f := 63) rfl ?_); refine goesL_ (some 42) rfl rfl Try.func63 (by kernel_rfl) rfl #[.pointer (some ⟨g, 0, none⟩), .int .i64 60] rfl Mt ?_; (with_reducible refine (spec_l1Cur_pick.calls g s0_0 x1001_4 x1002_4 60 t253 t254 t255 w0 _ ?side1 ?side2 A39.out).mono ?_); (case side1 => repeat (first | (with_reducible first | exact HI0.out | apply IsS80.alloc | apply IsS80.drewN | apply IsS80.drew | apply IsS80.set_1 | apply IsS80.set_2 | refine IsS80.far ?_ NB0_230.out _ | refine IsS80.far ?_ NB0_243.out _) | exact HI0.out)); (case side2 => repeat (first | (with_reducible first | exact HB.out | apply below_alloc | apply pw_below_drewN | apply below_drew1 | refine below_set ?_ (IsS80.ge HI0.out) | refine below_set ?_ GE230.out | refine below_set ?_ GE243.out) | exact HB.out)); rintro e w63 ⟨rfl, hi, hb, hk⟩; refine ⟨_, rfl, ?_⟩; have n0_ := Aside0.mk (KeepBut.blk hk (g' := gb230) (o := .cells #[.int .i64 0, .int .i64 0, .int .i64 0, .string (⟨#[]⟩ : ByteArray)] 27 (0, 0)) (by (with_reducible repeat (first | refine blk_drewN ?_ _ | refine blk_drew ?_ | refine blk_alloc ?_ _)); exact BK230.out) NB230_0.out (by simp)); have n1_ := Aside0.mk (KeepBut.blk hk (g' := gb243) (o := .cells #[.int .i64 t234, .int .i64 t237, .int .i64 x244002_4, .string x244003_4] 27 (0, 0)) (by (with_reducible repeat (first | refine blk_drewN ?_ _ | refine blk_drew ?_ | refine blk_alloc ?_ _)); exact BK243.out) NB243_0.out (by simp)); have n2_ := Aside0.mk (KeepBut.trans (by repeat (first | (with_reducible first | exact HK.out | apply KeepBut.set_ | apply keep_drewN | apply keep_drew | apply keep_alloc | refine keep_far ?_ GW230.out _ | refine keep_far ?_ GW243.out _) | exact HK.out)) hk (.inl rfl)); have n3_ := Aside0.mk (hb); have n4_ := Aside0.mk (hi); clear BK230; clear BK243; clear HK; clear HB; clear HI0; have BK230 := n0_; have BK243 := n1_; have HK := n2_; have HB := n3_; have HI0 := n4_; clear n0_ n1_ n2_ n3_ n4_; (try clear hb); (try clear hb2); (try clear hk); (try clear hi); have hnb64 := NB243_230.out; have hnc64 := NB230_243.out; have hnb65 := NB243_0.out; have hnc65 := NB0_243.out; have hcz66_0 : w63.cell? ⟨gb243, 0, none⟩ = some (.int .i64 t234) := (blk_cell BK243.out 0).trans rfl; have hcz66_1 : w63.cell? ⟨gb243, 1, none⟩ = some (.int .i64 t237) := (blk_cell BK243.out 1).trans rfl; have hcz66_2 : w63.cell? ⟨gb243, 2, none⟩ = some (.int .i64 x244002_4) := (blk_cell BK243.out 2).trans rfl; have hcz66_3 : w63.cell? ⟨gb243, 3, none⟩ = some (.string x244003_4) := (blk_cell BK243.out 3).trans rfl; have hfz66_0 := blk_frozen BK243.out 0; have hfz66_1 := blk_frozen BK243.out 1; have hfz66_2 := blk_frozen BK243.out 2; have hfz66_3 := blk_frozen BK243.out 3; have hnb67 := NB230_0.out; have hnc67 := NB0_230.out; have hcz68_0 : w63.cell? ⟨gb230, 0, none⟩ = some (.int .i64 0) := (blk_cell BK230.out 0).trans rfl; have hcz68_1 : w63.cell? ⟨gb230, 1, none⟩ = some (.int .i64 0) := (blk_cell BK230.out 1).trans rfl; have hcz68_2 : w63.cell? ⟨gb230, 2, none⟩ = some (.int .i64 0) := (blk_cell BK230.out 2).trans rfl; have hcz68_3 : w63.cell? ⟨gb230, 3, none⟩ = some (.string (⟨#[]⟩ : ByteArray)) := (blk_cell BK230.out 3).trans rfl; have hfz68_0 := blk_frozen BK230.out 0; have hfz68_1 := blk_frozen BK230.out 1; have hfz68_2 := blk_frozen BK230.out 2; have hfz68_3 := blk_frozen BK230.out 3))
       refine bodyPost_ret (results_cell_row rfl _ _ gb230 27 #[.int .i64 t234, .int .i64 t237, .int .i64 x244002_4, .string (x244003_4 ++ (⟨#[120]⟩ : ByteArray))] (0, 0) _ rfl (by (with_reducible repeat (first | refine blk_drewN ?_ _ | refine blk_drew ?_ | refine blk_alloc ?_ _)); refine blk_put (cs := #[.int .i64 t234, .int .i64 t237, .int .i64 x244002_4, .string (⟨#[]⟩ : ByteArray)]) ?_ 3 _ rfl; (with_reducible repeat (first | refine blk_drewN ?_ _ | refine blk_drew ?_ | refine blk_alloc ?_ _)); refine blk_put (cs := #[.int .i64 t234, .int .i64 t237, .int .i64 0, .string (⟨#[]⟩ : ByteArray)]) ?_ 2 _ rfl; (with_reducible repeat (first | refine blk_drewN ?_ _ | refine blk_drew ?_ | refine blk_alloc ?_ _)); refine blk_put (cs := #[.int .i64 t234, .int .i64 0, .int .i64 0, .string (⟨#[]⟩ : ByteArray)]) ?_ 1 _ rfl; (with_reducible repeat (first | refine blk_drewN ?_ _ | refine blk_drew ?_ | refine blk_alloc ?_ _)); refine blk_put (cs := #[.int .i64 0, .int .i64 0, .int .i64 0, .string (⟨#[]⟩ : ByteArray)]) ?_ 0 _ rfl; (with_reducible repeat (first | refine blk_drewN ?_ _ | refine blk_drew ?_ | refine blk_alloc ?_ _)); refine blk_far ?_ NB230_243.out _; (with_reducible repeat (first | refine blk_drewN ?_ _ | refine blk_drew ?_ | refine blk_alloc ?_ _)); exact BK230.out) Try.underlying27 rfl (by kernel_rfl)) rfl ?_
       exact ⟨by first | rfl | (simp [errW_none, errW_some] <;> rfl) | (simp [*, errW_none, errW_some] <;> rfl), by repeat (first | (with_reducible first | exact HI0.out | apply IsS80.alloc | apply IsS80.drewN | apply IsS80.drew | apply IsS80.set_1 | apply IsS80.set_2 | refine IsS80.far ?_ NB0_230.out _ | refine IsS80.far ?_ NB0_243.out _) | exact HI0.out), by repeat (first | (with_reducible first | exact HB.out | apply below_alloc | apply pw_below_drewN | apply below_drew1 | refine below_set ?_ (IsS80.ge HI0.out) | refine below_set ?_ GE230.out | refine below_set ?_ GE243.out) | exact HB.out), by repeat (first | (with_reducible first | exact HK.out | apply KeepBut.set_ | apply keep_drewN | apply keep_drew | apply keep_alloc | refine keep_far ?_ GW230.out _ | refine keep_far ?_ GW243.out _) | exact HK.out)⟩
      ·rw [if_neg c62] at H
       exact absurd H (by simp)
     ·rw [if_neg c61] at H
      have c61b0 : (t253 == 2) = false := beq_eq_false_iff_ne.mpr c61
      have c61b1 : (t253 != 2) = true := bne_iff_ne.mpr c61
      simp only [Option.some.injEq, Prod.mk.injEq] at H
      obtain ⟨rfl, rfl, rfl, rfl, rfl, rfl⟩ := H
      go_wp2_with (first | ((with_reducible refine gate_callee (f := 63) rfl ?_); refine goesL_ (some 42) rfl rfl Try.func63 (by kernel_rfl) rfl #[.pointer (some ⟨g, 0, none⟩), .int .i64 60] rfl Mt ?_; (with_reducible refine (spec_l1Cur_pick.calls g s0_0 x1001_4 x1002_4 60 t253 t254 t255 w0 _ ?side1 ?side2 A39.out).mono ?_); (case side1 => repeat (first | (with_reducible first | exact HI0.out | apply IsS80.alloc | apply IsS80.drewN | apply IsS80.drew | apply IsS80.set_1 | apply IsS80.set_2 | refine IsS80.far ?_ NB0_230.out _ | refine IsS80.far ?_ NB0_243.out _) | exact HI0.out)); (case side2 => repeat (first | (with_reducible first | exact HB.out | apply below_alloc | apply pw_below_drewN | apply below_drew1 | refine below_set ?_ (IsS80.ge HI0.out) | refine below_set ?_ GE230.out | refine below_set ?_ GE243.out) | exact HB.out)); rintro e w69 ⟨rfl, hi, hb, hk⟩; refine ⟨_, rfl, ?_⟩; have n0_ := Aside0.mk (KeepBut.blk hk (g' := gb230) (o := .cells #[.int .i64 0, .int .i64 0, .int .i64 0, .string (⟨#[]⟩ : ByteArray)] 27 (0, 0)) (by (with_reducible repeat (first | refine blk_drewN ?_ _ | refine blk_drew ?_ | refine blk_alloc ?_ _)); exact BK230.out) NB230_0.out (by simp)); have n1_ := Aside0.mk (KeepBut.blk hk (g' := gb243) (o := .cells #[.int .i64 t234, .int .i64 t237, .int .i64 x244002_4, .string x244003_4] 27 (0, 0)) (by (with_reducible repeat (first | refine blk_drewN ?_ _ | refine blk_drew ?_ | refine blk_alloc ?_ _)); exact BK243.out) NB243_0.out (by simp)); have n2_ := Aside0.mk (KeepBut.trans (by repeat (first | (with_reducible first | exact HK.out | apply KeepBut.set_ | apply keep_drewN | apply keep_drew | apply keep_alloc | refine keep_far ?_ GW230.out _ | refine keep_far ?_ GW243.out _) | exact HK.out)) hk (.inl rfl)); have n3_ := Aside0.mk (hb); have n4_ := Aside0.mk (hi); clear BK230; clear BK243; clear HK; clear HB; clear HI0; have BK230 := n0_; have BK243 := n1_; have HK := n2_; have HB := n3_; have HI0 := n4_; clear n0_ n1_ n2_ n3_ n4_; (try clear hb); (try clear hb2); (try clear hk); (try clear hi); have hnb70 := NB243_230.out; have hnc70 := NB230_243.out; have hnb71 := NB243_0.out; have hnc71 := NB0_243.out; have hcz72_0 : w69.cell? ⟨gb243, 0, none⟩ = some (.int .i64 t234) := (blk_cell BK243.out 0).trans rfl; have hcz72_1 : w69.cell? ⟨gb243, 1, none⟩ = some (.int .i64 t237) := (blk_cell BK243.out 1).trans rfl; have hcz72_2 : w69.cell? ⟨gb243, 2, none⟩ = some (.int .i64 x244002_4) := (blk_cell BK243.out 2).trans rfl; have hcz72_3 : w69.cell? ⟨gb243, 3, none⟩ = some (.string x244003_4) := (blk_cell BK243.out 3).trans rfl; have hfz72_0 := blk_frozen BK243.out 0; have hfz72_1 := blk_frozen BK243.out 1; have hfz72_2 := blk_frozen BK243.out 2; have hfz72_3 := blk_frozen BK243.out 3; have hnb73 := NB230_0.out; have hnc73 := NB0_230.out; have hcz74_0 : w69.cell? ⟨gb230, 0, none⟩ = some (.int .i64 0) := (blk_cell BK230.out 0).trans rfl; have hcz74_1 : w69.cell? ⟨gb230, 1, none⟩ = some (.int .i64 0) := (blk_cell BK230.out 1).trans rfl; have hcz74_2 : w69.cell? ⟨gb230, 2, none⟩ = some (.int .i64 0) := (blk_cell BK230.out 2).trans rfl; have hcz74_3 : w69.cell? ⟨gb230, 3, none⟩ = some (.string (⟨#[]⟩ : ByteArray)) := (blk_cell BK230.out 3).trans rfl; have hfz74_0 := blk_frozen BK230.out 0; have hfz74_1 := blk_frozen BK230.out 1; have hfz74_2 := blk_frozen BK230.out 2; have hfz74_3 := blk_frozen BK230.out 3))
      refine bodyPost_ret (results_cell_row rfl _ _ gb230 27 #[.int .i64 t234, .int .i64 t237, .int .i64 x244002_4, .string x244003_4] (0, 0) _ rfl (by (with_reducible repeat (first | refine blk_drewN ?_ _ | refine blk_drew ?_ | refine blk_alloc ?_ _)); refine blk_put (cs := #[.int .i64 t234, .int .i64 t237, .int .i64 x244002_4, .string (⟨#[]⟩ : ByteArray)]) ?_ 3 _ rfl; (with_reducible repeat (first | refine blk_drewN ?_ _ | refine blk_drew ?_ | refine blk_alloc ?_ _)); refine blk_put (cs := #[.int .i64 t234, .int .i64 t237, .int .i64 0, .string (⟨#[]⟩ : ByteArray)]) ?_ 2 _ rfl; (with_reducible repeat (first | refine blk_drewN ?_ _ | refine blk_drew ?_ | refine blk_alloc ?_ _)); refine blk_put (cs := #[.int .i64 t234, .int .i64 0, .int .i64 0, .string (⟨#[]⟩ : ByteArray)]) ?_ 1 _ rfl; (with_reducible repeat (first | refine blk_drewN ?_ _ | refine blk_drew ?_ | refine blk_alloc ?_ _)); refine blk_put (cs := #[.int .i64 0, .int .i64 0, .int .i64 0, .string (⟨#[]⟩ : ByteArray)]) ?_ 0 _ rfl; (with_reducible repeat (first | refine blk_drewN ?_ _ | refine blk_drew ?_ | refine blk_alloc ?_ _)); exact BK230.out) Try.underlying27 rfl (by kernel_rfl)) rfl ?_
      exact ⟨by first | rfl | (simp [errW_none, errW_some] <;> rfl) | (simp [*, errW_none, errW_some] <;> rfl), by repeat (first | (with_reducible first | exact HI0.out | apply IsS80.alloc | apply IsS80.drewN | apply IsS80.drew | apply IsS80.set_1 | apply IsS80.set_2 | refine IsS80.far ?_ NB0_230.out _ | refine IsS80.far ?_ NB0_243.out _) | exact HI0.out), by repeat (first | (with_reducible first | exact HB.out | apply below_alloc | apply pw_below_drewN | apply below_drew1 | refine below_set ?_ (IsS80.ge HI0.out) | refine below_set ?_ GE230.out | refine below_set ?_ GE243.out) | exact HB.out), by repeat (first | (with_reducible first | exact HK.out | apply KeepBut.set_ | apply keep_drewN | apply keep_drew | apply keep_alloc | refine keep_far ?_ GW230.out _ | refine keep_far ?_ GW243.out _) | exact HK.out)⟩

/-! ### spec_l1Cur_records: function 69 -/
def spec_l1Cur_records.l0 : Nat → List (S27) → Int → List Int → Int → Int → Option ((List (S27)) × Int × Int)
 | 0, _, _, _, _, _ => none
 | k + 1, x5, x6, x1000, x1001, x1002 => if x6 > 0 then ((spec_l1Cur_record.f k x1000 x1001 x1002).bind fun bt268 => (if x5.length < 3518437208883 then (spec_l1Cur_records.l0 k (x5 ++ [(⟨bt268.1, bt268.2.1, bt268.2.2.1, bt268.2.2.2.1⟩ : S27)]) (wrap64 (x6 - 1)) x1000 bt268.2.2.2.2.1 bt268.2.2.2.2.2) else (none))) else (some (x5, x1001, x1002))
def spec_l1Cur_records.f (k : Nat) (s0_0 : List Int) (s0_1 : Int) (s0_2 : Int) (a1 : Int) : Option ((List (S27)) × Int × Int) := (spec_l1Cur_pick.f s0_0 s0_1 s0_2 (wrap64 (a1 + 1))).bind fun bt265 => (spec_l1Cur_records.l0 k ([] : List (S27)) bt265.1 s0_0 bt265.2.1 bt265.2.2)
theorem spec_l1Cur_records.mono_l : ∀ k, (∀ y0 y1 y2 y3 y4, LeO (spec_l1Cur_records.l0 k y0 y1 y2 y3 y4) (spec_l1Cur_records.l0 (k + 1) y0 y1 y2 y3 y4))
 | 0 => fun _ _ _ _ _ r h => by simp [spec_l1Cur_records.l0] at h
 | k + 1 => by
  have ih0 := spec_l1Cur_records.mono_l k
  ·intro y0 y1 y2 y3 y4
   unfold spec_l1Cur_records.l0
   repeat' first
   | (with_reducible exact ih0 _ _ _ _ _)
   | (with_reducible exact spec_l1Cur_record.mono _ _ _ _)
   | (with_reducible exact LeO.refl _)
   | (with_reducible exact LeO.none _)
   | (with_reducible refine LeO.ite ?_ ?_)
   | (with_reducible refine LeO.bind ?_ (fun _ => ?_))
   | exact ih0 _ _ _ _ _
   | exact spec_l1Cur_record.mono _ _ _ _
   | exact LeO.none _
   | refine LeO.ite ?_ ?_
   | refine LeO.bind ?_ (fun _ => ?_)
theorem spec_l1Cur_records.mono : ∀ a0 a1 a2 a3 k, LeO (spec_l1Cur_records.f k a0 a1 a2 a3) (spec_l1Cur_records.f (k + 1) a0 a1 a2 a3) := by
 intro a0 a1 a2 a3 k
 have ih0 := spec_l1Cur_records.mono_l k
 unfold spec_l1Cur_records.f
 repeat' first
   | (with_reducible exact ih0 _ _ _ _ _)
   | (with_reducible exact spec_l1Cur_record.mono _ _ _ _)
   | (with_reducible exact LeO.refl _)
   | (with_reducible exact LeO.none _)
   | (with_reducible refine LeO.ite ?_ ?_)
   | (with_reducible refine LeO.bind ?_ (fun _ => ?_))
   | exact ih0 _ _ _ _ _
   | exact spec_l1Cur_record.mono _ _ _ _
   | exact LeO.none _
   | refine LeO.ite ?_ ?_
   | refine LeO.bind ?_ (fun _ => ?_)
set_option maxHeartbeats 8000000 in
set_option maxRecDepth 100000 in
theorem spec_l1Cur_records.calls (k : Nat) (g : Nat) (s0_0 : List Int) (s0_1 : Int) (s0_2 : Int) (a1 : Int) (r1 : List (S27)) (r2 : Int) (r3 : Int) (w0 w : World) (hI : IsS80 w0 w g s0_0 s0_1 s0_2) (hB : Below w0.heap.size w0 w) (h : spec_l1Cur_records.f k s0_0 s0_1 s0_2 a1 = some (r1, r2, r3)) :
  Calls Try.prog 69 #[.pointer (some ⟨g, 0, none⟩), .int .i64 a1] w fun e w' => ∃ v0_ : Value, e = .returned (v0_) ∧ Kd.R k27 27 w' w.heap.size (fun _ => True) v0_ r1 ∧ IsS80 w0 w' g s0_0 r2 r3 ∧ Below w0.heap.size w0 w' ∧ KeepBut w w' g none := by
 have HI0 := Aside0.mk hI
 have HK := Aside0.mk (KeepBut.refl w g none)
 have HL := Aside0.mk hB.size
 clear hI
 have HW0 := Aside0.mk hB.size
 have HB := Aside0.mk hB
 clear hB
 have H : ((spec_l1Cur_pick.f s0_0 s0_1 s0_2 (wrap64 (a1 + 1))).bind fun bt265 => (spec_l1Cur_records.l0 k ([] : List (S27)) bt265.1 s0_0 bt265.2.1 bt265.2.2)) = some (r1, r2, r3) := h
 clear h
 replace H := Option.bind_eq_some_iff.mp H
 obtain ⟨⟨t265, t266, t267⟩, A30, H⟩ := H
 replace H : (spec_l1Cur_records.l0 k ([] : List (S27)) t265 s0_0 t266 t267) = some (r1, r2, r3) := H
 have A3 := Aside0.mk A30
 clear A30
 have H' := Aside0.mk H
 clear H
 go_enter Try.func69, Try.ntmps69
 go_wp2_with (first | ((with_reducible refine gate_callee (f := 63) rfl ?_); refine goesL_ (some 10) rfl rfl Try.func63 (by kernel_rfl) rfl #[.pointer (some ⟨g, 0, none⟩), .int .i64 (wrap64 (a1 + 1))] rfl Mt ?_; (with_reducible refine (spec_l1Cur_pick.calls g s0_0 s0_1 s0_2 (wrap64 (a1 + 1)) t265 t266 t267 w0 _ ?side1 ?side2 A3.out).mono ?_); (case side1 => repeat (first | (with_reducible first | exact HI0.out | apply IsS80.alloc | apply IsS80.drewN | apply IsS80.drew | apply IsS80.set_1 | apply IsS80.set_2) | exact HI0.out)); (case side2 => repeat (first | (with_reducible first | exact HB.out | apply below_alloc | apply pw_below_drewN | apply below_drew1 | refine below_set ?_ (IsS80.ge HI0.out)) | exact HB.out)); rintro e w4 ⟨rfl, hi, hb, hk⟩; refine ⟨_, rfl, ?_⟩; have n0_ := Aside0.mk (KeepBut.trans Kb hk (.inl rfl)); have n1_ := Aside0.mk (hb); have n2_ := Aside0.mk (hi); clear HK; clear HB; clear HI0; have HK := n0_; have HB := n1_; have HI0 := n2_; clear n0_ n1_ n2_; (try clear hb); (try clear hb2); (try clear hk); (try clear hi)))
 go_loopg [5, 6] k (fun kq v5 v6 w' => ∃ (x5_1 : List (S27)) (x6_1 : Int) (x1001_1 : Int) (x1002_1 : Int), v6 = .int .i64 x6_1 ∧ Aside0 (spec_l1Cur_records.l0 kq x5_1 x6_1 s0_0 x1001_1 x1002_1 = some (r1, r2, r3)) ∧ Aside0 (kq ≤ k) ∧ Aside0 (Kd.R k27 27 w' w.heap.size (fun _ => True) v5 x5_1) ∧ Aside0 (IsS80 w0 w' g s0_0 x1001_1 x1002_1) ∧ Aside0 (KeepBut w w' g none) ∧ Aside0 (Below w0.heap.size w0 w'))
 case atStart => exact ⟨(([] : List (S27))), (t265), (t266), (t267), (by first | rfl | (simp; done) | (simp [*]; done)), H', ⟨Nat.le_refl _⟩, ⟨by first | exact Kd.R_nil _ _ _ _ _ | exact Kd.N_nil _ _ _ _ _ | exact Kd.V_nil _ _ _ _ _ | exact Kd.Q_nil _ _ _ _ _ | exact Kd.S_nil _ _ _ _ _⟩, ⟨by repeat (first | (with_reducible first | exact HI0.out | apply IsS80.alloc | apply IsS80.drewN | apply IsS80.drew | apply IsS80.set_1 | apply IsS80.set_2) | exact HI0.out)⟩, ⟨Kb⟩, ⟨by repeat (first | (with_reducible first | exact HB.out | apply below_alloc | apply pw_below_drewN | apply below_drew1 | refine below_set ?_ (IsS80.ge HI0.out)) | exact HB.out)⟩⟩
 case round =>
  clear H'
  try clear p2
  obtain ⟨x5_1, x6_1, x1001_1, x1002_1, rfl, HA, HK1, HO_5, HI0, HK, HB⟩ := hrel
  cases gk with
  | zero => exact absurd HA.out (by simp [spec_l1Cur_records.l0])
  | succ k1 =>
   have H := HA.out
   clear HA
   simp only [spec_l1Cur_records.l0] at H
   by_cases c5 : x6_1 > 0
   ·rw [if_pos c5] at H
    have c5b0 : decide (0 < x6_1) = true := decide_eq_true c5
    clear c5
    replace H := Option.bind_eq_some_iff.mp H
    obtain ⟨⟨t268, t269, t270, t271, t272, t273⟩, A60, H⟩ := H
    replace H : (if x5_1.length < 3518437208883 then (spec_l1Cur_records.l0 k1 (x5_1 ++ [(⟨t268, t269, t270, t271⟩ : S27)]) (wrap64 (x6_1 - 1)) s0_0 t272 t273) else (none)) = some (r1, r2, r3) := H
    have A6 := Aside0.mk A60
    clear A60
    by_cases c7 : x5_1.length < 3518437208883
    ·rw [if_pos c7] at H
     have LMc7 := Aside0.mk c7
     clear c7
     obtain ⟨y274, hy274⟩ : ∃ y_ : List (S27), y_ = (x5_1 ++ [(⟨t268, t269, t270, t271⟩ : S27)]) := ⟨_, rfl⟩
     replace H : (spec_l1Cur_records.l0 k1 y274 (wrap64 (x6_1 - 1)) s0_0 t272 t273) = some (r1, r2, r3) := by first | (rw [hy274]; with_reducible exact H) | (have H2_ := (Option.bind_some _ _).symm.trans H; rw [hy274]; with_reducible exact H2_) | (have H2_ := (Option.bind_some _ _).symm.trans H; with_reducible exact H2_) | with_reducible exact H | (rw [hy274]; exact H) | exact H
     have Ny274 := Aside0.mk hy274
     clear hy274
     have H' := Aside0.mk H
     clear H
     go_wp2_with (first | ((with_reducible refine gate_callee (f := 85) rfl ?_); refine goesL_ (some 17) rfl rfl Try.func85 (by kernel_rfl) rfl #[.pointer (some ⟨g, 0, none⟩)] rfl Mt ?_; (with_reducible refine (spec_l1Cur_record.calls k1 g s0_0 x1001_1 x1002_1 t268 t269 t270 t271 t272 t273 w0 _ ?side1 ?side2 A6.out).mono ?_); (case side1 => repeat (first | (with_reducible first | exact HI0.out | apply IsS80.alloc | apply IsS80.drewN | apply IsS80.drew | apply IsS80.set_1 | apply IsS80.set_2) | exact HI0.out)); (case side2 => repeat (first | (with_reducible first | exact HB.out | apply below_alloc | apply pw_below_drewN | apply below_drew1 | refine below_set ?_ (IsS80.ge HI0.out)) | exact HB.out)); rintro e w8 ⟨rfl, hi, hb, hk⟩; refine ⟨_, rfl, ?_⟩; have n0_ := Aside0.mk (Kd.R_mono (Kd.R_keep (IsS80.apart (show IsS80 w0 _ g s0_0 x1001_1 x1002_1 from by repeat (first | (with_reducible first | exact HI0.out | apply IsS80.alloc | apply IsS80.drewN | apply IsS80.drew | apply IsS80.set_1 | apply IsS80.set_2) | exact HI0.out)) (by (with_reducible repeat (first | apply Kd.R_alloc | apply Kd.R_drewN | apply Kd.R_drew)); exact HO_5.out) (by decide)) hk (fun _ h => h.2)) (fun _ h => h.1)); have n1_ := Aside0.mk (KeepBut.trans Kb hk (.inl rfl)); have n2_ := Aside0.mk (hb); have n3_ := Aside0.mk (hi); clear HO_5; clear HK; clear HB; clear HI0; have HO_5 := n0_; have HK := n1_; have HB := n2_; have HI0 := n3_; clear n0_ n1_ n2_ n3_; (try clear hb); (try clear hb2); (try clear hk); (try clear hi)) | ((with_reducible refine gate_builtin (b := .append) (xs := #[.tmp 15, .tmp 18]) rfl ?_); at_builtin; refine Kd.R_append k27 w.heap.size rfl (.tmp 15) (.tmp 18) 38 27 (.agg #[(.int .i64 0), (.int .i64 0), (.int .i64 0), (.string ⟨#[]⟩)]) 40 rfl Try.underlying38 info27 rfl (by decide) (by omega) u5 x5_1 (⟨t268, t269, t270, t271⟩ : S27) [.int .i64 t268, .int .i64 t269, .int .i64 t270, .string t271] (fun _ => True) (fun _ => False) rfl rfl ?aP (fun _ hk => hk.elim) ?aF ?aO (Below.refl _ _) ?aS ?aL ?_; (case aP => exact k27_mkM _ _ _ (⟨t268, t269, t270, t271⟩ : S27)); (case aF => exact (fun _ _ => trivial)); (case aO => exact (by (with_reducible repeat (first | apply Kd.R_alloc | apply Kd.R_drewN | apply Kd.R_drew)); exact HO_5.out)); (case aS => exact (keep_size (w := w) (g := g) (row := none) Kb)); (case aL => have := LMc7.out; omega); intro v275 w9 ho hb hg hat; rw [← Ny274.out] at ho; have n0_ := Aside0.mk (IsS80.grown (by repeat (first | (with_reducible first | exact HI0.out | apply IsS80.alloc | apply IsS80.drewN | apply IsS80.drew | apply IsS80.set_1 | apply IsS80.set_2) | exact HI0.out)) hg (IsS80.own_ne HI0.out HO_5.out (by decide))); have n1_ := Aside0.mk (below_weaken (by repeat (first | (with_reducible first | exact HB.out | apply below_alloc | apply pw_below_drewN | apply below_drew1 | refine below_set ?_ (IsS80.ge HI0.out)) | exact HB.out)) HL.out hb); have n2_ := Aside0.mk (KeepBut.trans Kb (KeepBut.of_grown hg g) (Kd.R_base2 HO_5.out)); have n3_ := Aside0.mk (ho); clear HI0; clear HB; clear HK; clear HO_5; have HI0 := n0_; have HB := n1_; have HK := n2_; have HO276 := n3_; clear n0_ n1_ n2_ n3_; clear ho hb hg hat))
     go_roundg k1
     case measure => have := HK1.out; omega
     case rel => exact ⟨(y274), (wrap64 (x6_1 - 1)), (t272), (t273), (by first | rfl | (simp; done) | (simp [*]; done)), H', ⟨by have := HK1.out; omega⟩, ⟨by (with_reducible repeat (first | apply Kd.R_alloc | apply Kd.R_drewN | apply Kd.R_drew)); exact HO276.out⟩, ⟨by repeat (first | (with_reducible first | exact HI0.out | apply IsS80.alloc | apply IsS80.drewN | apply IsS80.drew | apply IsS80.set_1 | apply IsS80.set_2) | exact HI0.out)⟩, ⟨Kb⟩, ⟨by repeat (first | (with_reducible first | exact HB.out | apply below_alloc | apply pw_below_drewN | apply below_drew1 | refine below_set ?_ (IsS80.ge HI0.out)) | exact HB.out)⟩⟩
    ·rw [if_neg c7] at H
     exact absurd H (by simp)
   ·rw [if_neg c5] at H
    have c5b0 : decide (0 < x6_1) = false := decide_eq_false c5
    clear c5
    simp only [Option.some.injEq, Prod.mk.injEq] at H
    obtain ⟨rfl, rfl, rfl⟩ := H
    go_wp2
    go_ret
    exact ⟨_, by first | rfl | (simp [errW_none, errW_some] <;> rfl) | (simp [*, errW_none, errW_some] <;> rfl), by (with_reducible repeat (first | apply Kd.R_alloc | apply Kd.R_drewN | apply Kd.R_drew)); exact HO_5.out, by repeat (first | (with_reducible first | exact HI0.out | apply IsS80.alloc | apply IsS80.drewN | apply IsS80.drew | apply IsS80.set_1 | apply IsS80.set_2) | exact HI0.out), by repeat (first | (with_reducible first | exact HB.out | apply below_alloc | apply pw_below_drewN | apply below_drew1 | refine below_set ?_ (IsS80.ge HI0.out)) | exact HB.out), Kb⟩

/-! ### drawlit: our own -/
theorem draw_lit (W : World) (xs : List Int) (h : xs.length ≤ maxLen) : Kd.C (Kd.int .i64) (W.alloc (.cells (encs (Value.int .i64) xs).toArray 3)) (some ⟨W.heap.size, 0, none⟩) xs.length xs := by
 have R := Kd.R_of_own (enc := Value.int .i64) (h1 := fun _ => rfl) (e := 3) (w := W.alloc (.cells (encs (Value.int .i64) xs).toArray 3)) (base := 0) (ok := fun _ => True) (v := .slice (some ⟨W.heap.size, 0, none⟩) xs.length xs.length) (xs := xs)
  ⟨by simp [encs], .inr ⟨_, xs.length, _, rfl, Nat.zero_le _, blk_new W _, Nat.le_refl _, h, by simp [encs], by simp [encs, List.take_of_length_le]⟩⟩ (fun _ _ => trivial)
 exact (Kd.R_reads' R).2.2

/-! ### spec_DrawSegmentText: function 41 (our own text) -/
def spec_DrawSegmentText.a : List Int := [5, 10, 40]
def spec_DrawSegmentText.f (k : Nat) (l0 : List Int) : Option (List S27) := (spec_l1Cur_among.f l0 0 0 spec_DrawSegmentText.a).bind fun a => ((spec_l1Cur_records.f k l0 a.2.1 a.2.2 a.1).bind fun b => some b.1)
theorem spec_DrawSegmentText.mono : ∀ a0 k, LeO (spec_DrawSegmentText.f k a0) (spec_DrawSegmentText.f (k + 1) a0) := by
 intro a0 k
 unfold spec_DrawSegmentText.f
 exact LeO.bind (LeO.refl _) (fun _ => LeO.bind (spec_l1Cur_records.mono _ _ _ _ _) (fun _ => LeO.refl _))
set_option maxHeartbeats 800000 in
set_option maxRecDepth 100000 in
theorem spec_DrawSegmentText.calls (k : Nat) (A0 : Option Addr) (c0 : Nat) (l0 : List Int) (r : List S27) (w : World) (hr0 : Kd.C (Kd.int .u8) w A0 l0.length l0) (hc0 : l0.length ≤ c0) (h : spec_DrawSegmentText.f k l0 = some r) :
  Calls Try.prog 41 #[.slice A0 l0.length c0] w fun e w' => ∃ v0_ : Value, e = .returned (v0_) ∧ Kd.R k27 27 w' w.heap.size (fun _ => True) v0_ r ∧ Below w.heap.size w w' := by
 obtain ⟨⟨x1, x2, x3⟩, h1, h⟩ := Option.bind_eq_some_iff.1 h
 obtain ⟨⟨y1, y2, y3⟩, h2, h⟩ := Option.bind_eq_some_iff.1 h
 obtain rfl := Option.some.inj h
 dsimp only at h2
 have HR := Aside0.mk hr0
 have H1 := Aside0.mk h1
 have H2 := Aside0.mk h2
 have hu := Try.underlying80
 clear hr0 h1 h2 hc0 h
 go_enter Try.func41, Try.ntmps41
 go_wp2_with (first | ((with_reducible refine gate_dst (N := 6) rfl ?_); refine box_event ?hg (N := 6) ?hd (cs := #[.slice A0 l0.length c0, .int .i64 0, .int .u64 0]) (t := 80) ?hr ?_; (case hd => rfl); (case hg => rfl); (case hr => first | (go_simp; done) | (go_simp; rfl)); intro gb hg w6 hbox hb; have HBX := Aside0.mk hb; have BK := Aside0.mk hbox; have HG := Aside0.mk hg; clear hb hbox hg))
 have HI := Aside0.mk (show IsS80 w w6 gb l0 0 0 from ⟨A0, c0, BK.out, by have := HG.out; omega, HR.out⟩)
 have HL := Aside0.mk (IsS80.lt HI.out)
 refine (spec_l1Cur_among.calls gb l0 0 0 (some ⟨w6.heap.size, 0, none⟩) 3 spec_DrawSegmentText.a x1 x2 x3 w _ (IsS80.alloc HI.out _) (below_alloc HBX.out _) (draw_lit w6 spec_DrawSegmentText.a (by decide)) (by decide) (by intro ad e _ e2; cases e; exact Nat.ne_of_gt HL.out e2) H1.out).mono ?_
 rintro e w7 ⟨rfl, hI, hb, _⟩
 have HI7 := Aside0.mk hI
 have HB7 := Aside0.mk hb
 clear hI hb HI HBX BK HG HL
 go_wp2_with fail
 refine (spec_l1Cur_records.calls k gb l0 x2 x3 x1 y1 y2 y3 w w7 HI7.out HB7.out H2.out).mono ?_
 rintro e w8 ⟨v, rfl, ho, _, hb, _⟩
 have HO8 := Aside0.mk (Kd.R_lower ho (below_size HB7.out))
 have HB8 := Aside0.mk hb
 obtain ⟨A, c, rfl⟩ := Kd.R_slice HO8.out
 clear ho hb HI7 HB7
 go_wp2
 go_ret
 exact ⟨_, rfl, HO8.out, HB8.out⟩

end Go.Proofs.Ytjpeedbabjaidaa.PR

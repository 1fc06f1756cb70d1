-- Written by a program of this session (wip/xprint.py over the kit's printer), out of the translation; the texts of functions that the printer does not take are this session's own.
import Derived.Test.YtjpeedbabjaidaaPRx0
import Derived.Test.YtjpeedbabjaidaaPRx1
import Derived.Test.YtjpeedbabjaidaaPRx2
import Derived.Test.YtjpeedbabjaidaaPRx5
import Derived.Test.YtjpeedbabjaidaaPRx7
import Derived.Test.YtjpeedbabjaidaaPRx8
import Derived.Test.YtjpeedbabjaidaaPRx9
import Derived.Test.YtjpeedbabjaidaaPRx10
namespace Go.Proofs.Ytjpeedbabjaidaa.PR
open Go.RowKit Go.Proofs.YtjpeedbabjaidaaW.PrintWords Go.Proofs.YtjpeedbabjaidaaW.PrintLast Go.Proofs.YtjpeedbabjaidaaW.PrintMore
attribute [local go_sem] max2_int min2_int max_two min_two max_three min_three max_four min_four   -- for this text's walks alone
set_option linter.unusedVariables false
set_option linter.unusedSimpArgs false

attribute [local go_sem high] eqA27
/-! ### laws_FnRecords: function 9 -/
mutual
def laws_FnRecords.j0 : Nat → List Int → List (S27) → ByteArray → Bool → Bool → Option (Bool)
 | 0, _, _, _, _, _ => none
 | k + 1, x1, x5, x6, x7, x66 => if x66 = true then (some false) else (if x7 = true then ((impl_ReadSegment.f k x6).bind fun bt317 => ((laws_numberOf.f k x1).bind fun t322 => (if (wrap64 ((x6.size : Int) + 1)) = 0 then (none) else ((impl_TornSegment.f k x6 (Int.tmod t322 (wrap64 ((x6.size : Int) + 1)))).bind fun bt323 => ((impl_ReadSegment.f k bt323.1).bind fun bt325 => (if bt317.2.2 = true then (if bt317.2.1 = (x6.size : Int) then ((laws_sameRecords.f k bt317.1 x5).bind fun t330 => (if t330 = true then (if bt323.2 = true then (if bt325.2.2 = true then (if (bt325.1.length : Int) > (x5.length : Int) then (some false) else (if 0 ≤ (bt325.1.length : Int) then (if (bt325.1.length : Int) ≤ (x5.length : Int) then ((laws_sameRecords.f k bt325.1 (x5.take ((bt325.1.length : Int) : Int).toNat)).bind fun t335 => (if t335 = true then (laws_FnRecords.j1 k x1) else (some false))) else (none)) else (none))) else (some false)) else (some false)) else (some false))) else (some false)) else (some false))))))) else (laws_FnRecords.j1 k x1))
def laws_FnRecords.j1 : Nat → List Int → Option (Bool)
 | 0, _ => none
 | k + 1, x1 => (spec_DrawReadSegment.f k x1).bind fun t336 => ((impl_ReadSegment.f k t336).bind fun bt337 => ((spec_ReadSegment.f k t336).bind fun bt342 => ((spec_DrawTornSegment.f k x1).bind fun bt347 => ((impl_TornSegment.f k bt347.1 bt347.2).bind fun bt349 => ((spec_TornSegment.f k bt347.1 bt347.2).bind fun bt351 => ((spec_DrawReadRecord.f k x1).bind fun bt353 => ((impl_ReadRecord.f k bt353.1 bt353.2).bind fun bt355 => ((spec_ReadRecord.f k bt353.1 bt353.2).bind fun bt362 => (if (bt337.2.2 != bt342.2.2) = true then (laws_FnRecords.j2 k bt353.1 bt353.2 bt355.2.2.2.2.1 bt355.2.2.2.2.2 true bt355.1 bt355.2.1 bt355.2.2.1 bt355.2.2.2.1) else (if bt337.2.1 = bt342.2.1 then ((laws_sameRecords.f k bt337.1 bt342.1).bind fun t369 => (if t369 = true then (if (bt349.2 != bt351.2) = true then (laws_FnRecords.j2 k bt353.1 bt353.2 bt355.2.2.2.2.1 bt355.2.2.2.2.2 true bt355.1 bt355.2.1 bt355.2.2.1 bt355.2.2.2.1) else (if bt349.1.toList = bt351.1.toList then (if (bt355.2.2.2.2.2 != bt362.2.2.2.2.2) = true then (laws_FnRecords.j2 k bt353.1 bt353.2 bt355.2.2.2.2.1 bt355.2.2.2.2.2 true bt355.1 bt355.2.1 bt355.2.2.1 bt355.2.2.2.1) else (if bt355.2.2.2.2.1 = bt362.2.2.2.2.1 then (laws_FnRecords.j2 k bt353.1 bt353.2 bt355.2.2.2.2.1 bt355.2.2.2.2.2 (!(bt355.1 == bt362.1) || (!(bt355.2.1 == bt362.2.1) || (!(bt355.2.2.1 == bt362.2.2.1) || (!(bt355.2.2.2.1.toList == bt362.2.2.2.1.toList))))) bt355.1 bt355.2.1 bt355.2.2.1 bt355.2.2.2.1) else (laws_FnRecords.j2 k bt353.1 bt353.2 bt355.2.2.2.2.1 bt355.2.2.2.2.2 true bt355.1 bt355.2.1 bt355.2.2.1 bt355.2.2.2.1))) else (laws_FnRecords.j2 k bt353.1 bt353.2 bt355.2.2.2.2.1 bt355.2.2.2.2.2 true bt355.1 bt355.2.1 bt355.2.2.1 bt355.2.2.2.1))) else (laws_FnRecords.j2 k bt353.1 bt353.2 bt355.2.2.2.2.1 bt355.2.2.2.2.2 true bt355.1 bt355.2.1 bt355.2.2.1 bt355.2.2.2.1))) else (laws_FnRecords.j2 k bt353.1 bt353.2 bt355.2.2.2.2.1 bt355.2.2.2.2.2 true bt355.1 bt355.2.1 bt355.2.2.1 bt355.2.2.2.1)))))))))))
def laws_FnRecords.j2 : Nat → ByteArray → Int → Int → Bool → Bool → Int → Int → Int → ByteArray → Option (Bool)
 | 0, _, _, _, _, _, _, _, _, _ => none
 | k + 1, x31, x32, x34, x35, x217, x362000, x362001, x362002, x362003 => if x217 = true then (some false) else (if x35 = true then ((impl_RecordText.f x362000 x362001 x362002 x362003).bind fun bt370 => (if bt370.2 = true then (if 0 ≤ x32 then (if x32 ≤ x34 then (if x34 ≤ (x31.size : Int) then (some ((x31.extract (x32 : Int).toNat (x34 : Int).toNat).toList == bt370.1.toList)) else (none)) else (none)) else (none)) else (some false))) else (some true))
end
def laws_FnRecords.f (k : Nat) (l0 : List Int) (l1 : List Int) : Option (Bool) := if (wrap64 ((l0.length : Int) + (l1.length : Int))) > 1048576 then (some true) else ((spec_DrawSegmentText.f k l0).bind fun t310 => ((impl_SegmentText.f k t310).bind fun bt313 => ((spec_SegmentText.f k t310).bind fun bt315 => (if (bt313.2 != bt315.2) = true then (laws_FnRecords.j0 k l1 t310 bt313.1 bt313.2 true) else (laws_FnRecords.j0 k l1 t310 bt313.1 bt313.2 (bt313.1.toList != bt315.1.toList))))))
theorem laws_FnRecords.mono_l : ∀ k, (∀ y0 y1 y2 y3 y4, LeO (laws_FnRecords.j0 k y0 y1 y2 y3 y4) (laws_FnRecords.j0 (k + 1) y0 y1 y2 y3 y4)) ∧ (∀ y0, LeO (laws_FnRecords.j1 k y0) (laws_FnRecords.j1 (k + 1) y0)) ∧ (∀ y0 y1 y2 y3 y4 y5 y6 y7 y8, LeO (laws_FnRecords.j2 k y0 y1 y2 y3 y4 y5 y6 y7 y8) (laws_FnRecords.j2 (k + 1) y0 y1 y2 y3 y4 y5 y6 y7 y8))
 | 0 => ⟨fun _ _ _ _ _ r h => by simp [laws_FnRecords.j0] at h, fun _ r h => by simp [laws_FnRecords.j1] at h, fun _ _ _ _ _ _ _ _ _ r h => by simp [laws_FnRecords.j2] at h⟩
 | k + 1 => by
  obtain ⟨ih0, ih1, ih2⟩ := laws_FnRecords.mono_l k
  refine ⟨?_, ?_, ?_⟩
  ·intro y0 y1 y2 y3 y4
   unfold laws_FnRecords.j0
   repeat' first
   | (with_reducible exact ih0 _ _ _ _ _)
   | (with_reducible exact ih1 _)
   | (with_reducible exact ih2 _ _ _ _ _ _ _ _ _)
   | (with_reducible exact impl_ReadRecord.mono _ _ _)
   | (with_reducible exact impl_ReadSegment.mono _ _)
   | (with_reducible exact impl_SegmentText.mono _ _)
   | (with_reducible exact impl_TornSegment.mono _ _ _)
   | (with_reducible exact laws_numberOf.mono _ _)
   | (with_reducible exact laws_sameRecords.mono _ _ _)
   | (with_reducible exact spec_DrawReadRecord.mono _ _)
   | (with_reducible exact spec_DrawReadSegment.mono _ _)
   | (with_reducible exact spec_DrawSegmentText.mono _ _)
   | (with_reducible exact spec_DrawTornSegment.mono _ _)
   | (with_reducible exact spec_ReadRecord.mono _ _ _)
   | (with_reducible exact spec_ReadSegment.mono _ _)
   | (with_reducible exact spec_SegmentText.mono _ _)
   | (with_reducible exact spec_TornSegment.mono _ _ _)
   | (with_reducible exact LeO.refl _)
   | (with_reducible exact LeO.none _)
   | (with_reducible refine LeO.ite ?_ ?_)
   | (with_reducible refine LeO.bind ?_ (fun _ => ?_))
   | exact ih0 _ _ _ _ _
   | exact ih1 _
   | exact ih2 _ _ _ _ _ _ _ _ _
   | exact impl_ReadRecord.mono _ _ _
   | exact impl_ReadSegment.mono _ _
   | exact impl_SegmentText.mono _ _
   | exact impl_TornSegment.mono _ _ _
   | exact laws_numberOf.mono _ _
   | exact laws_sameRecords.mono _ _ _
   | exact spec_DrawReadRecord.mono _ _
   | exact spec_DrawReadSegment.mono _ _
   | exact spec_DrawSegmentText.mono _ _
   | exact spec_DrawTornSegment.mono _ _
   | exact spec_ReadRecord.mono _ _ _
   | exact spec_ReadSegment.mono _ _
   | exact spec_SegmentText.mono _ _
   | exact spec_TornSegment.mono _ _ _
   | exact LeO.none _
   | refine LeO.ite ?_ ?_
   | refine LeO.bind ?_ (fun _ => ?_)
  ·intro y0
   unfold laws_FnRecords.j1
   repeat' first
   | (with_reducible exact ih0 _ _ _ _ _)
   | (with_reducible exact ih1 _)
   | (with_reducible exact ih2 _ _ _ _ _ _ _ _ _)
   | (with_reducible exact impl_ReadRecord.mono _ _ _)
   | (with_reducible exact impl_ReadSegment.mono _ _)
   | (with_reducible exact impl_SegmentText.mono _ _)
   | (with_reducible exact impl_TornSegment.mono _ _ _)
   | (with_reducible exact laws_numberOf.mono _ _)
   | (with_reducible exact laws_sameRecords.mono _ _ _)
   | (with_reducible exact spec_DrawReadRecord.mono _ _)
   | (with_reducible exact spec_DrawReadSegment.mono _ _)
   | (with_reducible exact spec_DrawSegmentText.mono _ _)
   | (with_reducible exact spec_DrawTornSegment.mono _ _)
   | (with_reducible exact spec_ReadRecord.mono _ _ _)
   | (with_reducible exact spec_ReadSegment.mono _ _)
   | (with_reducible exact spec_SegmentText.mono _ _)
   | (with_reducible exact spec_TornSegment.mono _ _ _)
   | (with_reducible exact LeO.refl _)
   | (with_reducible exact LeO.none _)
   | (with_reducible refine LeO.ite ?_ ?_)
   | (with_reducible refine LeO.bind ?_ (fun _ => ?_))
   | exact ih0 _ _ _ _ _
   | exact ih1 _
   | exact ih2 _ _ _ _ _ _ _ _ _
   | exact impl_ReadRecord.mono _ _ _
   | exact impl_ReadSegment.mono _ _
   | exact impl_SegmentText.mono _ _
   | exact impl_TornSegment.mono _ _ _
   | exact laws_numberOf.mono _ _
   | exact laws_sameRecords.mono _ _ _
   | exact spec_DrawReadRecord.mono _ _
   | exact spec_DrawReadSegment.mono _ _
   | exact spec_DrawSegmentText.mono _ _
   | exact spec_DrawTornSegment.mono _ _
   | exact spec_ReadRecord.mono _ _ _
   | exact spec_ReadSegment.mono _ _
   | exact spec_SegmentText.mono _ _
   | exact spec_TornSegment.mono _ _ _
   | exact LeO.none _
   | refine LeO.ite ?_ ?_
   | refine LeO.bind ?_ (fun _ => ?_)
  ·intro y0 y1 y2 y3 y4 y5 y6 y7 y8
   unfold laws_FnRecords.j2
   repeat' first
   | (with_reducible exact ih0 _ _ _ _ _)
   | (with_reducible exact ih1 _)
   | (with_reducible exact ih2 _ _ _ _ _ _ _ _ _)
   | (with_reducible exact impl_ReadRecord.mono _ _ _)
   | (with_reducible exact impl_ReadSegment.mono _ _)
   | (with_reducible exact impl_SegmentText.mono _ _)
   | (with_reducible exact impl_TornSegment.mono _ _ _)
   | (with_reducible exact laws_numberOf.mono _ _)
   | (with_reducible exact laws_sameRecords.mono _ _ _)
   | (with_reducible exact spec_DrawReadRecord.mono _ _)
   | (with_reducible exact spec_DrawReadSegment.mono _ _)
   | (with_reducible exact spec_DrawSegmentText.mono _ _)
   | (with_reducible exact spec_DrawTornSegment.mono _ _)
   | (with_reducible exact spec_ReadRecord.mono _ _ _)
   | (with_reducible exact spec_ReadSegment.mono _ _)
   | (with_reducible exact spec_SegmentText.mono _ _)
   | (with_reducible exact spec_TornSegment.mono _ _ _)
   | (with_reducible exact LeO.refl _)
   | (with_reducible exact LeO.none _)
   | (with_reducible refine LeO.ite ?_ ?_)
   | (with_reducible refine LeO.bind ?_ (fun _ => ?_))
   | exact ih0 _ _ _ _ _
   | exact ih1 _
   | exact ih2 _ _ _ _ _ _ _ _ _
   | exact impl_ReadRecord.mono _ _ _
   | exact impl_ReadSegment.mono _ _
   | exact impl_SegmentText.mono _ _
   | exact impl_TornSegment.mono _ _ _
   | exact laws_numberOf.mono _ _
   | exact laws_sameRecords.mono _ _ _
   | exact spec_DrawReadRecord.mono _ _
   | exact spec_DrawReadSegment.mono _ _
   | exact spec_DrawSegmentText.mono _ _
   | exact spec_DrawTornSegment.mono _ _
   | exact spec_ReadRecord.mono _ _ _
   | exact spec_ReadSegment.mono _ _
   | exact spec_SegmentText.mono _ _
   | exact spec_TornSegment.mono _ _ _
   | exact LeO.none _
   | refine LeO.ite ?_ ?_
   | refine LeO.bind ?_ (fun _ => ?_)
theorem laws_FnRecords.mono : ∀ a0 a1 k, LeO (laws_FnRecords.f k a0 a1) (laws_FnRecords.f (k + 1) a0 a1) := by
 intro a0 a1 k
 obtain ⟨ih0, ih1, ih2⟩ := laws_FnRecords.mono_l k
 unfold laws_FnRecords.f
 repeat' first
   | (with_reducible exact ih0 _ _ _ _ _)
   | (with_reducible exact ih1 _)
   | (with_reducible exact ih2 _ _ _ _ _ _ _ _ _)
   | (with_reducible exact impl_ReadRecord.mono _ _ _)
   | (with_reducible exact impl_ReadSegment.mono _ _)
   | (with_reducible exact impl_SegmentText.mono _ _)
   | (with_reducible exact impl_TornSegment.mono _ _ _)
   | (with_reducible exact laws_numberOf.mono _ _)
   | (with_reducible exact laws_sameRecords.mono _ _ _)
   | (with_reducible exact spec_DrawReadRecord.mono _ _)
   | (with_reducible exact spec_DrawReadSegment.mono _ _)
   | (with_reducible exact spec_DrawSegmentText.mono _ _)
   | (with_reducible exact spec_DrawTornSegment.mono _ _)
   | (with_reducible exact spec_ReadRecord.mono _ _ _)
   | (with_reducible exact spec_ReadSegment.mono _ _)
   | (with_reducible exact spec_SegmentText.mono _ _)
   | (with_reducible exact spec_TornSegment.mono _ _ _)
   | (with_reducible exact LeO.refl _)
   | (with_reducible exact LeO.none _)
   | (with_reducible refine LeO.ite ?_ ?_)
   | (with_reducible refine LeO.bind ?_ (fun _ => ?_))
   | exact ih0 _ _ _ _ _
   | exact ih1 _
   | exact ih2 _ _ _ _ _ _ _ _ _
   | exact impl_ReadRecord.mono _ _ _
   | exact impl_ReadSegment.mono _ _
   | exact impl_SegmentText.mono _ _
   | exact impl_TornSegment.mono _ _ _
   | exact laws_numberOf.mono _ _
   | exact laws_sameRecords.mono _ _ _
   | exact spec_DrawReadRecord.mono _ _
   | exact spec_DrawReadSegment.mono _ _
   | exact spec_DrawSegmentText.mono _ _
   | exact spec_DrawTornSegment.mono _ _
   | exact spec_ReadRecord.mono _ _ _
   | exact spec_ReadSegment.mono _ _
   | exact spec_SegmentText.mono _ _
   | exact spec_TornSegment.mono _ _ _
   | exact LeO.none _
   | refine LeO.ite ?_ ?_
   | refine LeO.bind ?_ (fun _ => ?_)
set_option maxHeartbeats 8000000 in
set_option maxRecDepth 100000 in
theorem laws_FnRecords.calls (k : Nat) (A0 : Option Addr) (c0 : Nat) (l0 : List Int) (A1 : Option Addr) (c1 : Nat) (l1 : List Int) (r : Bool) (w : World) (hr0 : Kd.C (Kd.int .u8) w A0 l0.length l0) (hc0 : l0.length ≤ c0) (hr1 : Kd.C (Kd.int .u8) w A1 l1.length l1) (hc1 : l1.length ≤ c1) (h : laws_FnRecords.f k l0 l1 = some r) :
  Calls Try.prog 9 #[.slice A0 l0.length c0, .slice A1 l1.length c1] w fun e w' => e = .returned (.bool r) ∧ Below w.heap.size w w' := by
 have hu27 := Try.underlying27
 have HR0 := Aside0.mk hr0
 have HC0 := Aside0.mk hc0
 clear hr0 hc0
 have HR1 := Aside0.mk hr1
 have HC1 := Aside0.mk hc1
 clear hr1 hc1
 have HB := Aside0.mk (Below.refl w.heap.size w)
 have H : (if (wrap64 ((l0.length : Int) + (l1.length : Int))) > 1048576 then (some true) else ((spec_DrawSegmentText.f k l0).bind fun t310 => ((impl_SegmentText.f k t310).bind fun bt313 => ((spec_SegmentText.f k t310).bind fun bt315 => (if (bt313.2 != bt315.2) = true then (laws_FnRecords.j0 k l1 t310 bt313.1 bt313.2 true) else (laws_FnRecords.j0 k l1 t310 bt313.1 bt313.2 (bt313.1.toList != bt315.1.toList))))))) = some r := h
 clear h
 by_cases c3 : (wrap64 ((l0.length : Int) + (l1.length : Int))) > 1048576
 ·rw [if_pos c3] at H
  have c3b0 : decide (1048576 < (wrap64 ((l0.length : Int) + (l1.length : Int)))) = true := decide_eq_true c3
  clear c3
  obtain rfl := Option.some.inj H
  go_enter Try.func9, Try.ntmps9
  go_wp2
  go_ret
  exact ⟨by first | rfl | (simp [errW_none, errW_some] <;> rfl) | (simp [*, errW_none, errW_some] <;> rfl), Bl⟩
 ·rw [if_neg c3] at H
  have c3b0 : decide (1048576 < (wrap64 ((l0.length : Int) + (l1.length : Int)))) = false := decide_eq_false c3
  clear c3
  replace H := Option.bind_eq_some_iff.mp H
  obtain ⟨t310, A40, H⟩ := H
  replace H : ((impl_SegmentText.f k t310).bind fun bt313 => ((spec_SegmentText.f k t310).bind fun bt315 => (if (bt313.2 != bt315.2) = true then (laws_FnRecords.j0 k l1 t310 bt313.1 bt313.2 true) else (laws_FnRecords.j0 k l1 t310 bt313.1 bt313.2 (bt313.1.toList != bt315.1.toList))))) = some r := H
  have A4 := Aside0.mk A40
  clear A40
  replace H := Option.bind_eq_some_iff.mp H
  obtain ⟨⟨t313, t314⟩, A50, H⟩ := H
  replace H : ((spec_SegmentText.f k t310).bind fun bt315 => (if (t314 != bt315.2) = true then (laws_FnRecords.j0 k l1 t310 t313 t314 true) else (laws_FnRecords.j0 k l1 t310 t313 t314 (t313.toList != bt315.1.toList)))) = some r := H
  have A5 := Aside0.mk A50
  clear A50
  replace H := Option.bind_eq_some_iff.mp H
  obtain ⟨⟨t315, t316⟩, A60, H⟩ := H
  replace H : (if (t314 != t316) = true then (laws_FnRecords.j0 k l1 t310 t313 t314 true) else (laws_FnRecords.j0 k l1 t310 t313 t314 (t313.toList != t315.toList))) = some r := H
  have A6 := Aside0.mk A60
  clear A60
  have HC7 := Aside0.mk H
  clear H
  go_enter Try.func9, Try.ntmps9
  go_upto_region 6 with (first | ((with_reducible refine gate_callee (f := 41) rfl ?_); refine goesL_ (some 48) rfl rfl Try.func41 (by kernel_rfl) rfl #[.slice A0 l0.length c0] rfl Mt ?_; (with_reducible refine (spec_DrawSegmentText.calls k _ _ l0 t310 _ ?side1 ?side2 A4.out).mono ?_); (case side1 => repeat (first | exact HR0.out | (with_reducible refine Kd.C_alloc ?_ _) | (with_reducible refine Kd.C_drewN ?_ _) | (with_reducible refine Kd.C_drew ?_))); (case side2 => exact HC0.out); rintro e w8 ⟨v311, rfl, ho0, hb⟩; refine ⟨_, rfl, ?_⟩; have n0_ := Aside0.mk (Kd.R_lower ho0 (below_size Bl)); have n1_ := Aside0.mk (below_step Bl hb); clear HB; have HO312 := n0_; have HB := n1_; clear n0_ n1_; (try clear hb); (try clear hb2); (try clear hk); (try clear hi); (try clear ho0); obtain ⟨Ao9, co9, eo9⟩ := Kd.R_slice HO312.out; subst eo9) | ((with_reducible refine gate_callee (f := 22) rfl ?_); refine goesL_ (some 51) rfl rfl Try.func22 (by kernel_rfl) rfl #[.slice Ao9 t310.length co9] rfl Mt ?_; (with_reducible refine (impl_SegmentText.calls k _ _ t310 t313 t314 _ ?side1 ?side2 A5.out).mono ?_); (case side1 => repeat (first | exact (Kd.R_reads' HO312.out).2.2 | (with_reducible refine Kd.C_alloc ?_ _) | (with_reducible refine Kd.C_drewN ?_ _) | (with_reducible refine Kd.C_drew ?_))); (case side2 => exact (Kd.R_reads' HO312.out).2.1); rintro e w10 ⟨rfl, hb⟩; refine ⟨_, rfl, ?_⟩; have n0_ := Aside0.mk (Kd.R_below (by (with_reducible repeat (first | apply Kd.R_alloc | apply Kd.R_drewN | apply Kd.R_drew)); exact HO312.out) hb); have n1_ := Aside0.mk (below_step Bl hb); clear HO312; clear HB; have HO312 := n0_; have HB := n1_; clear n0_ n1_; (try clear hb); (try clear hb2); (try clear hk); (try clear hi)) | ((with_reducible refine gate_callee (f := 20) rfl ?_); refine goesL_ (some 56) rfl rfl Try.func20 (by kernel_rfl) rfl #[.slice Ao9 t310.length co9] rfl Mt ?_; (with_reducible refine (spec_SegmentText.calls k _ _ t310 t315 t316 _ ?side1 ?side2 A6.out).mono ?_); (case side1 => repeat (first | exact (Kd.R_reads' HO312.out).2.2 | (with_reducible refine Kd.C_alloc ?_ _) | (with_reducible refine Kd.C_drewN ?_ _) | (with_reducible refine Kd.C_drew ?_))); (case side2 => exact (Kd.R_reads' HO312.out).2.1); rintro e w11 ⟨rfl, hb⟩; refine ⟨_, rfl, ?_⟩; have n0_ := Aside0.mk (Kd.R_below (by (with_reducible repeat (first | apply Kd.R_alloc | apply Kd.R_drewN | apply Kd.R_drew)); exact HO312.out) hb); have n1_ := Aside0.mk (below_step Bl hb); clear HO312; clear HB; have HO312 := n0_; have HB := n1_; clear n0_ n1_; (try clear hb); (try clear hb2); (try clear hk); (try clear hi)))
  (try simp only [Act.put, List.setIfInBounds_toArray, List.set_cons_zero, List.set_cons_succ])
  go_cut [66] (fun v66 wc => ∃ (kq : Nat) (x66_6 : Bool), v66 = .bool x66_6 ∧ Aside0 (laws_FnRecords.j0 kq l1 t310 t313 t314 x66_6 = some r) ∧ Aside0 (kq ≤ k) ∧ Aside0 (Kd.R k27 27 wc w.heap.size (fun _ => True) (.slice Ao9 t310.length co9) t310) ∧ Aside0 (Below w.heap.size w wc))
  case first => as_aux_lemma =>
   have H := HC7.out
   clear HC7
   by_cases c12 : (t314 != t316) = true
   ·rw [if_pos c12] at H
    have c12b0 : (t314 != t316) = true := c12
    (try (have c12b1 : decide (t314 = t316) = false := by simpa using c12))
    (try (have c12b2 : (t314 == t316) = false := by simpa using c12))
    (try (have c12b3 : ¬ (t314 = t316) := by simpa using c12))
    clear c12
    (first | rw [c12b0] | (simp only [i64_w, i32_w]; rw [c12b0]) | skip)
    have H' := Aside0.mk H
    clear H
    go_wp2
    go_meet
    case rel => exact ⟨_, (true), (by first | rfl | (simp; done) | (simp [*]; done)), H', ⟨by first | omega | exact Nat.le_refl _⟩, ⟨by (with_reducible repeat (first | apply Kd.R_alloc | apply Kd.R_drewN | apply Kd.R_drew)); exact HO312.out⟩, ⟨Bl⟩⟩
   ·rw [if_neg c12] at H
    have c12b0 : (t314 != t316) = false := by simpa using c12
    (try (have c12b1 : decide (t314 = t316) = true := by simpa using c12))
    (try (have c12b2 : (t314 == t316) = true := by simpa using c12))
    clear c12
    (first | rw [c12b0] | (simp only [i64_w, i32_w]; rw [c12b0]) | skip)
    have H' := Aside0.mk H
    clear H
    go_wp2
    go_meet
    case rel => exact ⟨_, ((t313.toList != t315.toList)), (by first | rfl | (simp; done) | (simp [*]; done)), H', ⟨by first | omega | exact Nat.le_refl _⟩, ⟨by (with_reducible repeat (first | apply Kd.R_alloc | apply Kd.R_drewN | apply Kd.R_drew)); exact HO312.out⟩, ⟨Bl⟩⟩
  case rest => as_aux_lemma =>
   clear HC7
   try clear c1
   try clear c2
   try clear p2
   try clear c3
   try clear c3b0
   try clear c4
   try clear p6
   try clear c9
   try clear c12
   try clear c12b0
   try clear c12b1
   try clear c12b2
   obtain ⟨kq, x66_6, rfl, HA, HJ6, HO_5, HB⟩ := hcut
   cases kq with
   | zero => exact absurd HA.out (by simp [laws_FnRecords.j0])
   | succ kj6 =>
    have H := HA.out
    clear HA
    simp only [laws_FnRecords.j0] at H
    by_cases c13 : x66_6 = true
    ·subst c13
     have H1 : (some false) = some r := by rw [if_pos rfl] at H; exact H
     clear H
     have H := H1
     clear H1
     obtain rfl := Option.some.inj H
     go_wp2
     go_ret
     exact ⟨by first | rfl | (simp [errW_none, errW_some] <;> rfl) | (simp [*, errW_none, errW_some] <;> rfl), Bl⟩
    ·replace c13 := Bool.eq_false_iff.mpr c13
     subst c13
     have H1 : (if t314 = true then ((impl_ReadSegment.f kj6 t313).bind fun bt317 => ((laws_numberOf.f kj6 l1).bind fun t322 => (if (wrap64 ((t313.size : Int) + 1)) = 0 then (none) else ((impl_TornSegment.f kj6 t313 (Int.tmod t322 (wrap64 ((t313.size : Int) + 1)))).bind fun bt323 => ((impl_ReadSegment.f kj6 bt323.1).bind fun bt325 => (if bt317.2.2 = true then (if bt317.2.1 = (t313.size : Int) then ((laws_sameRecords.f kj6 bt317.1 t310).bind fun t330 => (if t330 = true then (if bt323.2 = true then (if bt325.2.2 = true then (if (bt325.1.length : Int) > (t310.length : Int) then (some false) else (if 0 ≤ (bt325.1.length : Int) then (if (bt325.1.length : Int) ≤ (t310.length : Int) then ((laws_sameRecords.f kj6 bt325.1 (t310.take ((bt325.1.length : Int) : Int).toNat)).bind fun t335 => (if t335 = true then (laws_FnRecords.j1 kj6 l1) else (some false))) else (none)) else (none))) else (some false)) else (some false)) else (some false))) else (some false)) else (some false))))))) else (laws_FnRecords.j1 kj6 l1)) = some r := by rw [if_neg (show ¬ (false = true) by decide)] at H; exact H
     clear H
     have H := H1
     clear H1
     have HC14 := Aside0.mk H
     clear H
     go_upto_if 67 with (fail)
     go_cut [] (fun wc => ∃ (kq : Nat), Aside0 (laws_FnRecords.j1 kq l1 = some r) ∧ Aside0 (kq ≤ kj6) ∧ Aside0 (Below w.heap.size w wc))
     case first => as_aux_lemma =>
      have H := HC14.out
      clear HC14
      by_cases c15 : t314 = true
      ·subst c15
       have H1 : ((impl_ReadSegment.f kj6 t313).bind fun bt317 => ((laws_numberOf.f kj6 l1).bind fun t322 => (if (wrap64 ((t313.size : Int) + 1)) = 0 then (none) else ((impl_TornSegment.f kj6 t313 (Int.tmod t322 (wrap64 ((t313.size : Int) + 1)))).bind fun bt323 => ((impl_ReadSegment.f kj6 bt323.1).bind fun bt325 => (if bt317.2.2 = true then (if bt317.2.1 = (t313.size : Int) then ((laws_sameRecords.f kj6 bt317.1 t310).bind fun t330 => (if t330 = true then (if bt323.2 = true then (if bt325.2.2 = true then (if (bt325.1.length : Int) > (t310.length : Int) then (some false) else (if 0 ≤ (bt325.1.length : Int) then (if (bt325.1.length : Int) ≤ (t310.length : Int) then ((laws_sameRecords.f kj6 bt325.1 (t310.take ((bt325.1.length : Int) : Int).toNat)).bind fun t335 => (if t335 = true then (laws_FnRecords.j1 kj6 l1) else (some false))) else (none)) else (none))) else (some false)) else (some false)) else (some false))) else (some false)) else (some false))))))) = some r := by rw [if_pos rfl] at H; exact H
       clear H
       have H := H1
       clear H1
       replace H := Option.bind_eq_some_iff.mp H
       obtain ⟨⟨t317, t318, t319⟩, A160, H⟩ := H
       replace H : ((laws_numberOf.f kj6 l1).bind fun t322 => (if (wrap64 ((t313.size : Int) + 1)) = 0 then (none) else ((impl_TornSegment.f kj6 t313 (Int.tmod t322 (wrap64 ((t313.size : Int) + 1)))).bind fun bt323 => ((impl_ReadSegment.f kj6 bt323.1).bind fun bt325 => (if t319 = true then (if t318 = (t313.size : Int) then ((laws_sameRecords.f kj6 t317 t310).bind fun t330 => (if t330 = true then (if bt323.2 = true then (if bt325.2.2 = true then (if (bt325.1.length : Int) > (t310.length : Int) then (some false) else (if 0 ≤ (bt325.1.length : Int) then (if (bt325.1.length : Int) ≤ (t310.length : Int) then ((laws_sameRecords.f kj6 bt325.1 (t310.take ((bt325.1.length : Int) : Int).toNat)).bind fun t335 => (if t335 = true then (laws_FnRecords.j1 kj6 l1) else (some false))) else (none)) else (none))) else (some false)) else (some false)) else (some false))) else (some false)) else (some false)))))) = some r := H
       have A16 := Aside0.mk A160
       clear A160
       replace H := Option.bind_eq_some_iff.mp H
       obtain ⟨t322, A170, H⟩ := H
       replace H : (if (wrap64 ((t313.size : Int) + 1)) = 0 then (none) else ((impl_TornSegment.f kj6 t313 (Int.tmod t322 (wrap64 ((t313.size : Int) + 1)))).bind fun bt323 => ((impl_ReadSegment.f kj6 bt323.1).bind fun bt325 => (if t319 = true then (if t318 = (t313.size : Int) then ((laws_sameRecords.f kj6 t317 t310).bind fun t330 => (if t330 = true then (if bt323.2 = true then (if bt325.2.2 = true then (if (bt325.1.length : Int) > (t310.length : Int) then (some false) else (if 0 ≤ (bt325.1.length : Int) then (if (bt325.1.length : Int) ≤ (t310.length : Int) then ((laws_sameRecords.f kj6 bt325.1 (t310.take ((bt325.1.length : Int) : Int).toNat)).bind fun t335 => (if t335 = true then (laws_FnRecords.j1 kj6 l1) else (some false))) else (none)) else (none))) else (some false)) else (some false)) else (some false))) else (some false)) else (some false))))) = some r := H
       have A17 := Aside0.mk A170
       clear A170
       by_cases c18 : (wrap64 ((t313.size : Int) + 1)) = 0
       ·rw [if_pos c18] at H
        exact absurd H (by simp)
       ·rw [if_neg c18] at H
        have c18b0 : ((wrap64 ((t313.size : Int) + 1)) == 0) = false := beq_eq_false_iff_ne.mpr c18
        have c18b1 : ((wrap64 ((t313.size : Int) + 1)) != 0) = true := bne_iff_ne.mpr c18
        (first | rw [c18b0] | (simp only [i64_w, i32_w]; rw [c18b0]) | skip)
        replace H := Option.bind_eq_some_iff.mp H
        obtain ⟨⟨t323, t324⟩, A190, H⟩ := H
        replace H : ((impl_ReadSegment.f kj6 t323).bind fun bt325 => (if t319 = true then (if t318 = (t313.size : Int) then ((laws_sameRecords.f kj6 t317 t310).bind fun t330 => (if t330 = true then (if t324 = true then (if bt325.2.2 = true then (if (bt325.1.length : Int) > (t310.length : Int) then (some false) else (if 0 ≤ (bt325.1.length : Int) then (if (bt325.1.length : Int) ≤ (t310.length : Int) then ((laws_sameRecords.f kj6 bt325.1 (t310.take ((bt325.1.length : Int) : Int).toNat)).bind fun t335 => (if t335 = true then (laws_FnRecords.j1 kj6 l1) else (some false))) else (none)) else (none))) else (some false)) else (some false)) else (some false))) else (some false)) else (some false))) = some r := H
        have A19 := Aside0.mk A190
        clear A190
        replace H := Option.bind_eq_some_iff.mp H
        obtain ⟨⟨t325, t326, t327⟩, A200, H⟩ := H
        replace H : (if t319 = true then (if t318 = (t313.size : Int) then ((laws_sameRecords.f kj6 t317 t310).bind fun t330 => (if t330 = true then (if t324 = true then (if t327 = true then (if (t325.length : Int) > (t310.length : Int) then (some false) else (if 0 ≤ (t325.length : Int) then (if (t325.length : Int) ≤ (t310.length : Int) then ((laws_sameRecords.f kj6 t325 (t310.take ((t325.length : Int) : Int).toNat)).bind fun t335 => (if t335 = true then (laws_FnRecords.j1 kj6 l1) else (some false))) else (none)) else (none))) else (some false)) else (some false)) else (some false))) else (some false)) else (some false)) = some r := H
        have A20 := Aside0.mk A200
        clear A200
        by_cases c21 : t319 = true
        ·subst c21
         have H1 : (if t318 = (t313.size : Int) then ((laws_sameRecords.f kj6 t317 t310).bind fun t330 => (if t330 = true then (if t324 = true then (if t327 = true then (if (t325.length : Int) > (t310.length : Int) then (some false) else (if 0 ≤ (t325.length : Int) then (if (t325.length : Int) ≤ (t310.length : Int) then ((laws_sameRecords.f kj6 t325 (t310.take ((t325.length : Int) : Int).toNat)).bind fun t335 => (if t335 = true then (laws_FnRecords.j1 kj6 l1) else (some false))) else (none)) else (none))) else (some false)) else (some false)) else (some false))) else (some false)) = some r := by rw [if_pos rfl] at H; exact H
         clear H
         have H := H1
         clear H1
         by_cases c22 : t318 = (t313.size : Int)
         ·rw [if_pos c22] at H
          have c22b0 : (t318 == (t313.size : Int)) = true := beq_iff_eq.mpr c22
          have c22b1 : (t318 != (t313.size : Int)) = false := bne_eq_false_iff_eq.mpr c22
          clear c22
          replace H := Option.bind_eq_some_iff.mp H
          obtain ⟨t330, A230, H⟩ := H
          replace H : (if t330 = true then (if t324 = true then (if t327 = true then (if (t325.length : Int) > (t310.length : Int) then (some false) else (if 0 ≤ (t325.length : Int) then (if (t325.length : Int) ≤ (t310.length : Int) then ((laws_sameRecords.f kj6 t325 (t310.take ((t325.length : Int) : Int).toNat)).bind fun t335 => (if t335 = true then (laws_FnRecords.j1 kj6 l1) else (some false))) else (none)) else (none))) else (some false)) else (some false)) else (some false)) = some r := H
          have A23 := Aside0.mk A230
          clear A230
          by_cases c24 : t330 = true
          ·subst c24
           have H1 : (if t324 = true then (if t327 = true then (if (t325.length : Int) > (t310.length : Int) then (some false) else (if 0 ≤ (t325.length : Int) then (if (t325.length : Int) ≤ (t310.length : Int) then ((laws_sameRecords.f kj6 t325 (t310.take ((t325.length : Int) : Int).toNat)).bind fun t335 => (if t335 = true then (laws_FnRecords.j1 kj6 l1) else (some false))) else (none)) else (none))) else (some false)) else (some false)) = some r := by rw [if_pos rfl] at H; exact H
           clear H
           have H := H1
           clear H1
           by_cases c25 : t324 = true
           ·subst c25
            have H1 : (if t327 = true then (if (t325.length : Int) > (t310.length : Int) then (some false) else (if 0 ≤ (t325.length : Int) then (if (t325.length : Int) ≤ (t310.length : Int) then ((laws_sameRecords.f kj6 t325 (t310.take ((t325.length : Int) : Int).toNat)).bind fun t335 => (if t335 = true then (laws_FnRecords.j1 kj6 l1) else (some false))) else (none)) else (none))) else (some false)) = some r := by rw [if_pos rfl] at H; exact H
            clear H
            have H := H1
            clear H1
            by_cases c26 : t327 = true
            ·subst c26
             have H1 : (if (t325.length : Int) > (t310.length : Int) then (some false) else (if 0 ≤ (t325.length : Int) then (if (t325.length : Int) ≤ (t310.length : Int) then ((laws_sameRecords.f kj6 t325 (t310.take ((t325.length : Int) : Int).toNat)).bind fun t335 => (if t335 = true then (laws_FnRecords.j1 kj6 l1) else (some false))) else (none)) else (none))) = some r := by rw [if_pos rfl] at H; exact H
             clear H
             have H := H1
             clear H1
             by_cases c27 : (t325.length : Int) > (t310.length : Int)
             ·rw [if_pos c27] at H
              have c27b0 : decide ((t310.length : Int) < (t325.length : Int)) = true := decide_eq_true c27
              have c27b1 : decide (t310.length < t325.length) = true := decide_eq_true (Int.ofNat_lt.mp c27)
              clear c27
              obtain rfl := Option.some.inj H
              go_wp2_with (first | ((with_reducible refine gate_callee (f := 25) rfl ?_); refine goesL_ (some 70) rfl rfl Try.func25 (by kernel_rfl) rfl #[.string t313] rfl Mt ?_; (with_reducible refine (impl_ReadSegment.calls kj6 t313 t317 t318 true _ A16.out).mono ?_); rintro e w28 ⟨v320, rfl, ho0, hb⟩; refine ⟨_, rfl, ?_⟩; have n0_ := Aside0.mk (Kd.R_elder' (by (with_reducible repeat (first | apply Kd.R_alloc | apply Kd.R_drewN | apply Kd.R_drew)); exact HO_5.out) (Kd.R_base ho0) hb); have n1_ := Aside0.mk (Kd.R_lower (Kd.R_new' ho0 (Kd.R_lt (by (with_reducible repeat (first | apply Kd.R_alloc | apply Kd.R_drewN | apply Kd.R_drew)); exact HO_5.out))) (below_size Bl)); have n2_ := Aside0.mk (below_step Bl hb); clear HO_5; clear HB; have HO_5 := n0_; have HO321 := n1_; have HB := n2_; clear n0_ n1_ n2_; (try clear hb); (try clear hb2); (try clear hk); (try clear hi); (try clear ho0)) | ((with_reducible refine gate_callee (f := 32) rfl ?_); refine goesL_ (some 77) rfl rfl Try.func32 (by kernel_rfl) rfl #[.slice A1 l1.length c1] rfl Mt ?_; (with_reducible refine (laws_numberOf.calls kj6 _ _ l1 t322 _ ?side1 ?side2 A17.out).mono ?_); (case side1 => repeat (first | exact (Kd.C_below HR1.out HB.out) | (with_reducible refine Kd.C_alloc ?_ _) | (with_reducible refine Kd.C_drewN ?_ _) | (with_reducible refine Kd.C_drew ?_))); (case side2 => exact HC1.out); rintro e w' ⟨rfl, ⟨nd, rfl⟩⟩; refine ⟨_, rfl, ?_⟩) | ((with_reducible refine gate_callee (f := 18) rfl ?_); refine goesL_ (some 82) rfl rfl Try.func18 (by kernel_rfl) rfl #[.string t313, .int .i64 (Int.tmod t322 (wrap64 ((t313.size : Int) + 1)))] rfl Mt ?_; (with_reducible refine (impl_TornSegment.calls kj6 t313 (Int.tmod t322 (wrap64 ((t313.size : Int) + 1))) t323 true _ A19.out).mono ?_); rintro e w29 ⟨rfl, hb⟩; refine ⟨_, rfl, ?_⟩; have n0_ := Aside0.mk (Kd.R_below (by (with_reducible repeat (first | apply Kd.R_alloc | apply Kd.R_drewN | apply Kd.R_drew)); exact HO_5.out) hb); have n1_ := Aside0.mk (Kd.R_below (by (with_reducible repeat (first | apply Kd.R_alloc | apply Kd.R_drewN | apply Kd.R_drew)); exact HO321.out) hb); have n2_ := Aside0.mk (below_step Bl hb); clear HO_5; clear HO321; clear HB; have HO_5 := n0_; have HO321 := n1_; have HB := n2_; clear n0_ n1_ n2_; (try clear hb); (try clear hb2); (try clear hk); (try clear hi)) | ((with_reducible refine gate_callee (f := 25) rfl ?_); refine goesL_ (some 87) rfl rfl Try.func25 (by kernel_rfl) rfl #[.string t323] rfl Mt ?_; (with_reducible refine (impl_ReadSegment.calls kj6 t323 t325 t326 true _ A20.out).mono ?_); rintro e w30 ⟨v328, rfl, ho0, hb⟩; refine ⟨_, rfl, ?_⟩; have n0_ := Aside0.mk (Kd.R_elder' (by (with_reducible repeat (first | apply Kd.R_alloc | apply Kd.R_drewN | apply Kd.R_drew)); exact HO_5.out) (Kd.R_base ho0) hb); have n1_ := Aside0.mk (Kd.R_elder' (by (with_reducible repeat (first | apply Kd.R_alloc | apply Kd.R_drewN | apply Kd.R_drew)); exact HO321.out) (Kd.R_base ho0) hb); have n2_ := Aside0.mk (Kd.R_lower (Kd.R_new' (Kd.R_new' ho0 (Kd.R_lt (by (with_reducible repeat (first | apply Kd.R_alloc | apply Kd.R_drewN | apply Kd.R_drew)); exact HO_5.out))) (Kd.R_lt (by (with_reducible repeat (first | apply Kd.R_alloc | apply Kd.R_drewN | apply Kd.R_drew)); exact HO321.out))) (below_size Bl)); have n3_ := Aside0.mk (below_step Bl hb); clear HO_5; clear HO321; clear HB; have HO_5 := n0_; have HO321 := n1_; have HO329 := n2_; have HB := n3_; clear n0_ n1_ n2_ n3_; (try clear hb); (try clear hb2); (try clear hk); (try clear hi); (try clear ho0); obtain ⟨Ao31, co31, eo31⟩ := Kd.R_slice HO321.out; subst eo31) | (go_at_call 42; (with_reducible refine (laws_sameRecords.calls kj6 _ _ t317 _ _ t310 true _ ?side1 ?side2 ?side3 ?side4 A23.out).mono ?_); (case side1 => repeat (first | exact (Kd.R_reads' HO321.out).2.2 | (with_reducible refine Kd.C_alloc ?_ _) | (with_reducible refine Kd.C_drewN ?_ _) | (with_reducible refine Kd.C_drew ?_))); (case side2 => exact (Kd.R_reads' HO321.out).2.1); (case side3 => repeat (first | exact (Kd.R_reads' HO_5.out).2.2 | (with_reducible refine Kd.C_alloc ?_ _) | (with_reducible refine Kd.C_drewN ?_ _) | (with_reducible refine Kd.C_drew ?_))); (case side4 => exact (Kd.R_reads' HO_5.out).2.1); rintro e w' ⟨rfl, ⟨nd, rfl⟩⟩; obtain ⟨Ao32, co32, eo32⟩ := Kd.R_slice HO329.out; subst eo32))
              go_ret
              exact ⟨by first | rfl | (simp [errW_none, errW_some] <;> rfl) | (simp [*, errW_none, errW_some] <;> rfl), Bl⟩
             ·rw [if_neg c27] at H
              have c27b0 : decide ((t310.length : Int) < (t325.length : Int)) = false := decide_eq_false c27
              have c27b1 : decide (t310.length < t325.length) = false := decide_eq_false (fun h => c27 (Int.ofNat_lt.mpr h))
              clear c27
              by_cases c33 : 0 ≤ (t325.length : Int)
              ·rw [if_pos c33] at H
               have c33b0 := eq_true c33
               have c33b1 : decide (0 ≤ (t325.length : Int)) = true := decide_eq_true c33
               clear c33
               by_cases c34 : (t325.length : Int) ≤ (t310.length : Int)
               ·rw [if_pos c34] at H
                have c34b0 := eq_true c34
                have c34b1 : decide ((t325.length : Int) ≤ (t310.length : Int)) = true := decide_eq_true c34
                clear c34
                obtain ⟨y331, hy331⟩ : ∃ y_ : List (S27), y_ = (t310.take ((t325.length : Int) : Int).toNat) := ⟨_, rfl⟩
                replace H : ((laws_sameRecords.f kj6 t325 y331).bind fun t335 => (if t335 = true then (laws_FnRecords.j1 kj6 l1) else (some false))) = some r := by first | (rw [hy331]; with_reducible exact H) | (have H2_ := (Option.bind_some _ _).symm.trans H; rw [hy331]; with_reducible exact H2_) | (have H2_ := (Option.bind_some _ _).symm.trans H; with_reducible exact H2_) | with_reducible exact H | (rw [hy331]; exact H) | exact H
                have Ny331 := Aside0.mk hy331
                clear hy331
                replace H := Option.bind_eq_some_iff.mp H
                obtain ⟨t335, A350, H⟩ := H
                replace H : (if t335 = true then (laws_FnRecords.j1 kj6 l1) else (some false)) = some r := H
                have A35 := Aside0.mk A350
                clear A350
                by_cases c36 : t335 = true
                ·subst c36
                 have H1 : (laws_FnRecords.j1 kj6 l1) = some r := by rw [if_pos rfl] at H; exact H
                 clear H
                 have H := H1
                 clear H1
                 have H' := Aside0.mk H
                 clear H
                 go_wp2_with (first | ((with_reducible refine gate_callee (f := 25) rfl ?_); refine goesL_ (some 70) rfl rfl Try.func25 (by kernel_rfl) rfl #[.string t313] rfl Mt ?_; (with_reducible refine (impl_ReadSegment.calls kj6 t313 t317 t318 true _ A16.out).mono ?_); rintro e w37 ⟨v320, rfl, ho0, hb⟩; refine ⟨_, rfl, ?_⟩; have n0_ := Aside0.mk (Kd.R_elder' (by (with_reducible repeat (first | apply Kd.R_alloc | apply Kd.R_drewN | apply Kd.R_drew)); exact HO_5.out) (Kd.R_base ho0) hb); have n1_ := Aside0.mk (Kd.R_lower (Kd.R_new' ho0 (Kd.R_lt (by (with_reducible repeat (first | apply Kd.R_alloc | apply Kd.R_drewN | apply Kd.R_drew)); exact HO_5.out))) (below_size Bl)); have n2_ := Aside0.mk (below_step Bl hb); clear HO_5; clear HB; have HO_5 := n0_; have HO321 := n1_; have HB := n2_; clear n0_ n1_ n2_; (try clear hb); (try clear hb2); (try clear hk); (try clear hi); (try clear ho0)) | ((with_reducible refine gate_callee (f := 32) rfl ?_); refine goesL_ (some 77) rfl rfl Try.func32 (by kernel_rfl) rfl #[.slice A1 l1.length c1] rfl Mt ?_; (with_reducible refine (laws_numberOf.calls kj6 _ _ l1 t322 _ ?side1 ?side2 A17.out).mono ?_); (case side1 => repeat (first | exact (Kd.C_below HR1.out HB.out) | (with_reducible refine Kd.C_alloc ?_ _) | (with_reducible refine Kd.C_drewN ?_ _) | (with_reducible refine Kd.C_drew ?_))); (case side2 => exact HC1.out); rintro e w' ⟨rfl, ⟨nd, rfl⟩⟩; refine ⟨_, rfl, ?_⟩) | ((with_reducible refine gate_callee (f := 18) rfl ?_); refine goesL_ (some 82) rfl rfl Try.func18 (by kernel_rfl) rfl #[.string t313, .int .i64 (Int.tmod t322 (wrap64 ((t313.size : Int) + 1)))] rfl Mt ?_; (with_reducible refine (impl_TornSegment.calls kj6 t313 (Int.tmod t322 (wrap64 ((t313.size : Int) + 1))) t323 true _ A19.out).mono ?_); rintro e w38 ⟨rfl, hb⟩; refine ⟨_, rfl, ?_⟩; have n0_ := Aside0.mk (Kd.R_below (by (with_reducible repeat (first | apply Kd.R_alloc | apply Kd.R_drewN | apply Kd.R_drew)); exact HO_5.out) hb); have n1_ := Aside0.mk (Kd.R_below (by (with_reducible repeat (first | apply Kd.R_alloc | apply Kd.R_drewN | apply Kd.R_drew)); exact HO321.out) hb); have n2_ := Aside0.mk (below_step Bl hb); clear HO_5; clear HO321; clear HB; have HO_5 := n0_; have HO321 := n1_; have HB := n2_; clear n0_ n1_ n2_; (try clear hb); (try clear hb2); (try clear hk); (try clear hi)) | ((with_reducible refine gate_callee (f := 25) rfl ?_); refine goesL_ (some 87) rfl rfl Try.func25 (by kernel_rfl) rfl #[.string t323] rfl Mt ?_; (with_reducible refine (impl_ReadSegment.calls kj6 t323 t325 t326 true _ A20.out).mono ?_); rintro e w39 ⟨v328, rfl, ho0, hb⟩; refine ⟨_, rfl, ?_⟩; have n0_ := Aside0.mk (Kd.R_elder' (by (with_reducible repeat (first | apply Kd.R_alloc | apply Kd.R_drewN | apply Kd.R_drew)); exact HO_5.out) (Kd.R_base ho0) hb); have n1_ := Aside0.mk (Kd.R_elder' (by (with_reducible repeat (first | apply Kd.R_alloc | apply Kd.R_drewN | apply Kd.R_drew)); exact HO321.out) (Kd.R_base ho0) hb); have n2_ := Aside0.mk (Kd.R_lower (Kd.R_new' (Kd.R_new' ho0 (Kd.R_lt (by (with_reducible repeat (first | apply Kd.R_alloc | apply Kd.R_drewN | apply Kd.R_drew)); exact HO_5.out))) (Kd.R_lt (by (with_reducible repeat (first | apply Kd.R_alloc | apply Kd.R_drewN | apply Kd.R_drew)); exact HO321.out))) (below_size Bl)); have n3_ := Aside0.mk (below_step Bl hb); clear HO_5; clear HO321; clear HB; have HO_5 := n0_; have HO321 := n1_; have HO329 := n2_; have HB := n3_; clear n0_ n1_ n2_ n3_; (try clear hb); (try clear hb2); (try clear hk); (try clear hi); (try clear ho0); obtain ⟨Ao40, co40, eo40⟩ := Kd.R_slice HO321.out; subst eo40) | (go_at_call 42; (with_reducible refine (laws_sameRecords.calls kj6 _ _ t317 _ _ t310 true _ ?side1 ?side2 ?side3 ?side4 A23.out).mono ?_); (case side1 => repeat (first | exact (Kd.R_reads' HO321.out).2.2 | (with_reducible refine Kd.C_alloc ?_ _) | (with_reducible refine Kd.C_drewN ?_ _) | (with_reducible refine Kd.C_drew ?_))); (case side2 => exact (Kd.R_reads' HO321.out).2.1); (case side3 => repeat (first | exact (Kd.R_reads' HO_5.out).2.2 | (with_reducible refine Kd.C_alloc ?_ _) | (with_reducible refine Kd.C_drewN ?_ _) | (with_reducible refine Kd.C_drew ?_))); (case side4 => exact (Kd.R_reads' HO_5.out).2.1); rintro e w' ⟨rfl, ⟨nd, rfl⟩⟩; obtain ⟨Ao41, co41, eo41⟩ := Kd.R_slice HO329.out; subst eo41; have q42 : ((t325.length : Int) : Int) ≤ ((t310.length : Int) : Int) := of_decide_eq_true (by first | (with_reducible assumption) | assumption); obtain ⟨i042, hi042, _, hsz42, _⟩ := info_parts info27; have hroom42 : t310.length ≤ co9 := (Kd.R_reads' HO_5.out).2.1; have hC42 : Kd.C k27 _ Ao9 t310.length t310 := (Kd.R_reads' HO_5.out).2.2; have hcut42 := cut_to (P := Try.prog) 38 27 .i64 Try.underlying38 hi042 Ao9 t310.length co9 (t325.length : Int) (of_decide_eq_true (by first | (with_reducible assumption) | assumption)) q42 hroom42; have hr42 := Kd.C_take (m := ((t325.length : Int) : Int).toNat) hC42 (by omega); have hy42 : y331.length = ((t325.length : Int) : Int).toNat := (by rw [Ny331.out, List.length_take]; omega); rw [← Ny331.out] at hr42; rw [← hy42] at hcut42; have HR334 := Aside0.mk hr42; have HC334 := Aside0.mk (show y331.length ≤ co9 from by omega); clear hr42 hC42 hroom42 hi042 hsz42; have KY42 := Aside0.mk hy42; clear hy42; have KL42 := Aside0.mk (show ((t325.length : Int) : Int).toNat ≤ t310.length from by omega); replace q42 := eq_true q42) | (go_at_call 42; (with_reducible refine (laws_sameRecords.calls kj6 _ _ t325 _ _ y331 true _ ?side1 ?side2 ?side3 ?side4 A35.out).mono ?_); (case side1 => repeat (first | exact (Kd.R_reads' HO329.out).2.2 | (with_reducible refine Kd.C_alloc ?_ _) | (with_reducible refine Kd.C_drewN ?_ _) | (with_reducible refine Kd.C_drew ?_))); (case side2 => exact (Kd.R_reads' HO329.out).2.1); (case side3 => repeat (first | exact (by repeat (first | (with_reducible exact HR334.out) | (with_reducible refine Kd.C_alloc ?_ _) | (with_reducible refine Kd.C_drewN ?_ _) | (with_reducible refine Kd.C_drew ?_) | exact HR334.out)) | (with_reducible refine Kd.C_alloc ?_ _) | (with_reducible refine Kd.C_drewN ?_ _) | (with_reducible refine Kd.C_drew ?_))); (case side4 => exact HC334.out); rintro e w' ⟨rfl, ⟨nd, rfl⟩⟩))
                 go_meet
                 case rel => exact ⟨_, H', ⟨by have := HJ6.out; first | omega | exact Nat.le_refl _⟩, ⟨Bl⟩⟩
                ·replace c36 := Bool.eq_false_iff.mpr c36
                 subst c36
                 have H1 : (some false) = some r := by rw [if_neg (show ¬ (false = true) by decide)] at H; exact H
                 clear H
                 have H := H1
                 clear H1
                 obtain rfl := Option.some.inj H
                 go_wp2_with (first | ((with_reducible refine gate_callee (f := 25) rfl ?_); refine goesL_ (some 70) rfl rfl Try.func25 (by kernel_rfl) rfl #[.string t313] rfl Mt ?_; (with_reducible refine (impl_ReadSegment.calls kj6 t313 t317 t318 true _ A16.out).mono ?_); rintro e w43 ⟨v320, rfl, ho0, hb⟩; refine ⟨_, rfl, ?_⟩; have n0_ := Aside0.mk (Kd.R_elder' (by (with_reducible repeat (first | apply Kd.R_alloc | apply Kd.R_drewN | apply Kd.R_drew)); exact HO_5.out) (Kd.R_base ho0) hb); have n1_ := Aside0.mk (Kd.R_lower (Kd.R_new' ho0 (Kd.R_lt (by (with_reducible repeat (first | apply Kd.R_alloc | apply Kd.R_drewN | apply Kd.R_drew)); exact HO_5.out))) (below_size Bl)); have n2_ := Aside0.mk (below_step Bl hb); clear HO_5; clear HB; have HO_5 := n0_; have HO321 := n1_; have HB := n2_; clear n0_ n1_ n2_; (try clear hb); (try clear hb2); (try clear hk); (try clear hi); (try clear ho0)) | ((with_reducible refine gate_callee (f := 32) rfl ?_); refine goesL_ (some 77) rfl rfl Try.func32 (by kernel_rfl) rfl #[.slice A1 l1.length c1] rfl Mt ?_; (with_reducible refine (laws_numberOf.calls kj6 _ _ l1 t322 _ ?side1 ?side2 A17.out).mono ?_); (case side1 => repeat (first | exact (Kd.C_below HR1.out HB.out) | (with_reducible refine Kd.C_alloc ?_ _) | (with_reducible refine Kd.C_drewN ?_ _) | (with_reducible refine Kd.C_drew ?_))); (case side2 => exact HC1.out); rintro e w' ⟨rfl, ⟨nd, rfl⟩⟩; refine ⟨_, rfl, ?_⟩) | ((with_reducible refine gate_callee (f := 18) rfl ?_); refine goesL_ (some 82) rfl rfl Try.func18 (by kernel_rfl) rfl #[.string t313, .int .i64 (Int.tmod t322 (wrap64 ((t313.size : Int) + 1)))] rfl Mt ?_; (with_reducible refine (impl_TornSegment.calls kj6 t313 (Int.tmod t322 (wrap64 ((t313.size : Int) + 1))) t323 true _ A19.out).mono ?_); rintro e w44 ⟨rfl, hb⟩; refine ⟨_, rfl, ?_⟩; have n0_ := Aside0.mk (Kd.R_below (by (with_reducible repeat (first | apply Kd.R_alloc | apply Kd.R_drewN | apply Kd.R_drew)); exact HO_5.out) hb); have n1_ := Aside0.mk (Kd.R_below (by (with_reducible repeat (first | apply Kd.R_alloc | apply Kd.R_drewN | apply Kd.R_drew)); exact HO321.out) hb); have n2_ := Aside0.mk (below_step Bl hb); clear HO_5; clear HO321; clear HB; have HO_5 := n0_; have HO321 := n1_; have HB := n2_; clear n0_ n1_ n2_; (try clear hb); (try clear hb2); (try clear hk); (try clear hi)) | ((with_reducible refine gate_callee (f := 25) rfl ?_); refine goesL_ (some 87) rfl rfl Try.func25 (by kernel_rfl) rfl #[.string t323] rfl Mt ?_; (with_reducible refine (impl_ReadSegment.calls kj6 t323 t325 t326 true _ A20.out).mono ?_); rintro e w45 ⟨v328, rfl, ho0, hb⟩; refine ⟨_, rfl, ?_⟩; have n0_ := Aside0.mk (Kd.R_elder' (by (with_reducible repeat (first | apply Kd.R_alloc | apply Kd.R_drewN | apply Kd.R_drew)); exact HO_5.out) (Kd.R_base ho0) hb); have n1_ := Aside0.mk (Kd.R_elder' (by (with_reducible repeat (first | apply Kd.R_alloc | apply Kd.R_drewN | apply Kd.R_drew)); exact HO321.out) (Kd.R_base ho0) hb); have n2_ := Aside0.mk (Kd.R_lower (Kd.R_new' (Kd.R_new' ho0 (Kd.R_lt (by (with_reducible repeat (first | apply Kd.R_alloc | apply Kd.R_drewN | apply Kd.R_drew)); exact HO_5.out))) (Kd.R_lt (by (with_reducible repeat (first | apply Kd.R_alloc | apply Kd.R_drewN | apply Kd.R_drew)); exact HO321.out))) (below_size Bl)); have n3_ := Aside0.mk (below_step Bl hb); clear HO_5; clear HO321; clear HB; have HO_5 := n0_; have HO321 := n1_; have HO329 := n2_; have HB := n3_; clear n0_ n1_ n2_ n3_; (try clear hb); (try clear hb2); (try clear hk); (try clear hi); (try clear ho0); obtain ⟨Ao46, co46, eo46⟩ := Kd.R_slice HO321.out; subst eo46) | (go_at_call 42; (with_reducible refine (laws_sameRecords.calls kj6 _ _ t317 _ _ t310 true _ ?side1 ?side2 ?side3 ?side4 A23.out).mono ?_); (case side1 => repeat (first | exact (Kd.R_reads' HO321.out).2.2 | (with_reducible refine Kd.C_alloc ?_ _) | (with_reducible refine Kd.C_drewN ?_ _) | (with_reducible refine Kd.C_drew ?_))); (case side2 => exact (Kd.R_reads' HO321.out).2.1); (case side3 => repeat (first | exact (Kd.R_reads' HO_5.out).2.2 | (with_reducible refine Kd.C_alloc ?_ _) | (with_reducible refine Kd.C_drewN ?_ _) | (with_reducible refine Kd.C_drew ?_))); (case side4 => exact (Kd.R_reads' HO_5.out).2.1); rintro e w' ⟨rfl, ⟨nd, rfl⟩⟩; obtain ⟨Ao47, co47, eo47⟩ := Kd.R_slice HO329.out; subst eo47; have q48 : ((t325.length : Int) : Int) ≤ ((t310.length : Int) : Int) := of_decide_eq_true (by first | (with_reducible assumption) | assumption); obtain ⟨i048, hi048, _, hsz48, _⟩ := info_parts info27; have hroom48 : t310.length ≤ co9 := (Kd.R_reads' HO_5.out).2.1; have hC48 : Kd.C k27 _ Ao9 t310.length t310 := (Kd.R_reads' HO_5.out).2.2; have hcut48 := cut_to (P := Try.prog) 38 27 .i64 Try.underlying38 hi048 Ao9 t310.length co9 (t325.length : Int) (of_decide_eq_true (by first | (with_reducible assumption) | assumption)) q48 hroom48; have hr48 := Kd.C_take (m := ((t325.length : Int) : Int).toNat) hC48 (by omega); have hy48 : y331.length = ((t325.length : Int) : Int).toNat := (by rw [Ny331.out, List.length_take]; omega); rw [← Ny331.out] at hr48; rw [← hy48] at hcut48; have HR334 := Aside0.mk hr48; have HC334 := Aside0.mk (show y331.length ≤ co9 from by omega); clear hr48 hC48 hroom48 hi048 hsz48; have KY48 := Aside0.mk hy48; clear hy48; have KL48 := Aside0.mk (show ((t325.length : Int) : Int).toNat ≤ t310.length from by omega); replace q48 := eq_true q48) | (go_at_call 42; (with_reducible refine (laws_sameRecords.calls kj6 _ _ t325 _ _ y331 false _ ?side1 ?side2 ?side3 ?side4 A35.out).mono ?_); (case side1 => repeat (first | exact (Kd.R_reads' HO329.out).2.2 | (with_reducible refine Kd.C_alloc ?_ _) | (with_reducible refine Kd.C_drewN ?_ _) | (with_reducible refine Kd.C_drew ?_))); (case side2 => exact (Kd.R_reads' HO329.out).2.1); (case side3 => repeat (first | exact (by repeat (first | (with_reducible exact HR334.out) | (with_reducible refine Kd.C_alloc ?_ _) | (with_reducible refine Kd.C_drewN ?_ _) | (with_reducible refine Kd.C_drew ?_) | exact HR334.out)) | (with_reducible refine Kd.C_alloc ?_ _) | (with_reducible refine Kd.C_drewN ?_ _) | (with_reducible refine Kd.C_drew ?_))); (case side4 => exact HC334.out); rintro e w' ⟨rfl, ⟨nd, rfl⟩⟩))
                 go_ret
                 exact ⟨by first | rfl | (simp [errW_none, errW_some] <;> rfl) | (simp [*, errW_none, errW_some] <;> rfl), Bl⟩
               ·rw [if_neg c34] at H
                exact absurd H (by simp)
              ·rw [if_neg c33] at H
               exact absurd H (by simp)
            ·replace c26 := Bool.eq_false_iff.mpr c26
             subst c26
             have H1 : (some false) = some r := by rw [if_neg (show ¬ (false = true) by decide)] at H; exact H
             clear H
             have H := H1
             clear H1
             obtain rfl := Option.some.inj H
             go_wp2_with (first | ((with_reducible refine gate_callee (f := 25) rfl ?_); refine goesL_ (some 70) rfl rfl Try.func25 (by kernel_rfl) rfl #[.string t313] rfl Mt ?_; (with_reducible refine (impl_ReadSegment.calls kj6 t313 t317 t318 true _ A16.out).mono ?_); rintro e w49 ⟨v320, rfl, ho0, hb⟩; refine ⟨_, rfl, ?_⟩; have n0_ := Aside0.mk (Kd.R_elder' (by (with_reducible repeat (first | apply Kd.R_alloc | apply Kd.R_drewN | apply Kd.R_drew)); exact HO_5.out) (Kd.R_base ho0) hb); have n1_ := Aside0.mk (Kd.R_lower (Kd.R_new' ho0 (Kd.R_lt (by (with_reducible repeat (first | apply Kd.R_alloc | apply Kd.R_drewN | apply Kd.R_drew)); exact HO_5.out))) (below_size Bl)); have n2_ := Aside0.mk (below_step Bl hb); clear HO_5; clear HB; have HO_5 := n0_; have HO321 := n1_; have HB := n2_; clear n0_ n1_ n2_; (try clear hb); (try clear hb2); (try clear hk); (try clear hi); (try clear ho0)) | ((with_reducible refine gate_callee (f := 32) rfl ?_); refine goesL_ (some 77) rfl rfl Try.func32 (by kernel_rfl) rfl #[.slice A1 l1.length c1] rfl Mt ?_; (with_reducible refine (laws_numberOf.calls kj6 _ _ l1 t322 _ ?side1 ?side2 A17.out).mono ?_); (case side1 => repeat (first | exact (Kd.C_below HR1.out HB.out) | (with_reducible refine Kd.C_alloc ?_ _) | (with_reducible refine Kd.C_drewN ?_ _) | (with_reducible refine Kd.C_drew ?_))); (case side2 => exact HC1.out); rintro e w' ⟨rfl, ⟨nd, rfl⟩⟩; refine ⟨_, rfl, ?_⟩) | ((with_reducible refine gate_callee (f := 18) rfl ?_); refine goesL_ (some 82) rfl rfl Try.func18 (by kernel_rfl) rfl #[.string t313, .int .i64 (Int.tmod t322 (wrap64 ((t313.size : Int) + 1)))] rfl Mt ?_; (with_reducible refine (impl_TornSegment.calls kj6 t313 (Int.tmod t322 (wrap64 ((t313.size : Int) + 1))) t323 true _ A19.out).mono ?_); rintro e w50 ⟨rfl, hb⟩; refine ⟨_, rfl, ?_⟩; have n0_ := Aside0.mk (Kd.R_below (by (with_reducible repeat (first | apply Kd.R_alloc | apply Kd.R_drewN | apply Kd.R_drew)); exact HO_5.out) hb); have n1_ := Aside0.mk (Kd.R_below (by (with_reducible repeat (first | apply Kd.R_alloc | apply Kd.R_drewN | apply Kd.R_drew)); exact HO321.out) hb); have n2_ := Aside0.mk (below_step Bl hb); clear HO_5; clear HO321; clear HB; have HO_5 := n0_; have HO321 := n1_; have HB := n2_; clear n0_ n1_ n2_; (try clear hb); (try clear hb2); (try clear hk); (try clear hi)) | ((with_reducible refine gate_callee (f := 25) rfl ?_); refine goesL_ (some 87) rfl rfl Try.func25 (by kernel_rfl) rfl #[.string t323] rfl Mt ?_; (with_reducible refine (impl_ReadSegment.calls kj6 t323 t325 t326 false _ A20.out).mono ?_); rintro e w51 ⟨v328, rfl, ho0, hb⟩; refine ⟨_, rfl, ?_⟩; have n0_ := Aside0.mk (Kd.R_elder' (by (with_reducible repeat (first | apply Kd.R_alloc | apply Kd.R_drewN | apply Kd.R_drew)); exact HO_5.out) (Kd.R_base ho0) hb); have n1_ := Aside0.mk (Kd.R_elder' (by (with_reducible repeat (first | apply Kd.R_alloc | apply Kd.R_drewN | apply Kd.R_drew)); exact HO321.out) (Kd.R_base ho0) hb); have n2_ := Aside0.mk (Kd.R_lower (Kd.R_new' (Kd.R_new' ho0 (Kd.R_lt (by (with_reducible repeat (first | apply Kd.R_alloc | apply Kd.R_drewN | apply Kd.R_drew)); exact HO_5.out))) (Kd.R_lt (by (with_reducible repeat (first | apply Kd.R_alloc | apply Kd.R_drewN | apply Kd.R_drew)); exact HO321.out))) (below_size Bl)); have n3_ := Aside0.mk (below_step Bl hb); clear HO_5; clear HO321; clear HB; have HO_5 := n0_; have HO321 := n1_; have HO329 := n2_; have HB := n3_; clear n0_ n1_ n2_ n3_; (try clear hb); (try clear hb2); (try clear hk); (try clear hi); (try clear ho0); obtain ⟨Ao52, co52, eo52⟩ := Kd.R_slice HO321.out; subst eo52) | (go_at_call 42; (with_reducible refine (laws_sameRecords.calls kj6 _ _ t317 _ _ t310 true _ ?side1 ?side2 ?side3 ?side4 A23.out).mono ?_); (case side1 => repeat (first | exact (Kd.R_reads' HO321.out).2.2 | (with_reducible refine Kd.C_alloc ?_ _) | (with_reducible refine Kd.C_drewN ?_ _) | (with_reducible refine Kd.C_drew ?_))); (case side2 => exact (Kd.R_reads' HO321.out).2.1); (case side3 => repeat (first | exact (Kd.R_reads' HO_5.out).2.2 | (with_reducible refine Kd.C_alloc ?_ _) | (with_reducible refine Kd.C_drewN ?_ _) | (with_reducible refine Kd.C_drew ?_))); (case side4 => exact (Kd.R_reads' HO_5.out).2.1); rintro e w' ⟨rfl, ⟨nd, rfl⟩⟩))
             go_ret
             exact ⟨by first | rfl | (simp [errW_none, errW_some] <;> rfl) | (simp [*, errW_none, errW_some] <;> rfl), Bl⟩
           ·replace c25 := Bool.eq_false_iff.mpr c25
            subst c25
            have H1 : (some false) = some r := by rw [if_neg (show ¬ (false = true) by decide)] at H; exact H
            clear H
            have H := H1
            clear H1
            obtain rfl := Option.some.inj H
            go_wp2_with (first | ((with_reducible refine gate_callee (f := 25) rfl ?_); refine goesL_ (some 70) rfl rfl Try.func25 (by kernel_rfl) rfl #[.string t313] rfl Mt ?_; (with_reducible refine (impl_ReadSegment.calls kj6 t313 t317 t318 true _ A16.out).mono ?_); rintro e w53 ⟨v320, rfl, ho0, hb⟩; refine ⟨_, rfl, ?_⟩; have n0_ := Aside0.mk (Kd.R_elder' (by (with_reducible repeat (first | apply Kd.R_alloc | apply Kd.R_drewN | apply Kd.R_drew)); exact HO_5.out) (Kd.R_base ho0) hb); have n1_ := Aside0.mk (Kd.R_lower (Kd.R_new' ho0 (Kd.R_lt (by (with_reducible repeat (first | apply Kd.R_alloc | apply Kd.R_drewN | apply Kd.R_drew)); exact HO_5.out))) (below_size Bl)); have n2_ := Aside0.mk (below_step Bl hb); clear HO_5; clear HB; have HO_5 := n0_; have HO321 := n1_; have HB := n2_; clear n0_ n1_ n2_; (try clear hb); (try clear hb2); (try clear hk); (try clear hi); (try clear ho0)) | ((with_reducible refine gate_callee (f := 32) rfl ?_); refine goesL_ (some 77) rfl rfl Try.func32 (by kernel_rfl) rfl #[.slice A1 l1.length c1] rfl Mt ?_; (with_reducible refine (laws_numberOf.calls kj6 _ _ l1 t322 _ ?side1 ?side2 A17.out).mono ?_); (case side1 => repeat (first | exact (Kd.C_below HR1.out HB.out) | (with_reducible refine Kd.C_alloc ?_ _) | (with_reducible refine Kd.C_drewN ?_ _) | (with_reducible refine Kd.C_drew ?_))); (case side2 => exact HC1.out); rintro e w' ⟨rfl, ⟨nd, rfl⟩⟩; refine ⟨_, rfl, ?_⟩) | ((with_reducible refine gate_callee (f := 18) rfl ?_); refine goesL_ (some 82) rfl rfl Try.func18 (by kernel_rfl) rfl #[.string t313, .int .i64 (Int.tmod t322 (wrap64 ((t313.size : Int) + 1)))] rfl Mt ?_; (with_reducible refine (impl_TornSegment.calls kj6 t313 (Int.tmod t322 (wrap64 ((t313.size : Int) + 1))) t323 false _ A19.out).mono ?_); rintro e w54 ⟨rfl, hb⟩; refine ⟨_, rfl, ?_⟩; have n0_ := Aside0.mk (Kd.R_below (by (with_reducible repeat (first | apply Kd.R_alloc | apply Kd.R_drewN | apply Kd.R_drew)); exact HO_5.out) hb); have n1_ := Aside0.mk (Kd.R_below (by (with_reducible repeat (first | apply Kd.R_alloc | apply Kd.R_drewN | apply Kd.R_drew)); exact HO321.out) hb); have n2_ := Aside0.mk (below_step Bl hb); clear HO_5; clear HO321; clear HB; have HO_5 := n0_; have HO321 := n1_; have HB := n2_; clear n0_ n1_ n2_; (try clear hb); (try clear hb2); (try clear hk); (try clear hi)) | ((with_reducible refine gate_callee (f := 25) rfl ?_); refine goesL_ (some 87) rfl rfl Try.func25 (by kernel_rfl) rfl #[.string t323] rfl Mt ?_; (with_reducible refine (impl_ReadSegment.calls kj6 t323 t325 t326 t327 _ A20.out).mono ?_); rintro e w55 ⟨v328, rfl, ho0, hb⟩; refine ⟨_, rfl, ?_⟩; have n0_ := Aside0.mk (Kd.R_elder' (by (with_reducible repeat (first | apply Kd.R_alloc | apply Kd.R_drewN | apply Kd.R_drew)); exact HO_5.out) (Kd.R_base ho0) hb); have n1_ := Aside0.mk (Kd.R_elder' (by (with_reducible repeat (first | apply Kd.R_alloc | apply Kd.R_drewN | apply Kd.R_drew)); exact HO321.out) (Kd.R_base ho0) hb); have n2_ := Aside0.mk (Kd.R_lower (Kd.R_new' (Kd.R_new' ho0 (Kd.R_lt (by (with_reducible repeat (first | apply Kd.R_alloc | apply Kd.R_drewN | apply Kd.R_drew)); exact HO_5.out))) (Kd.R_lt (by (with_reducible repeat (first | apply Kd.R_alloc | apply Kd.R_drewN | apply Kd.R_drew)); exact HO321.out))) (below_size Bl)); have n3_ := Aside0.mk (below_step Bl hb); clear HO_5; clear HO321; clear HB; have HO_5 := n0_; have HO321 := n1_; have HO329 := n2_; have HB := n3_; clear n0_ n1_ n2_ n3_; (try clear hb); (try clear hb2); (try clear hk); (try clear hi); (try clear ho0); obtain ⟨Ao56, co56, eo56⟩ := Kd.R_slice HO321.out; subst eo56) | (go_at_call 42; (with_reducible refine (laws_sameRecords.calls kj6 _ _ t317 _ _ t310 true _ ?side1 ?side2 ?side3 ?side4 A23.out).mono ?_); (case side1 => repeat (first | exact (Kd.R_reads' HO321.out).2.2 | (with_reducible refine Kd.C_alloc ?_ _) | (with_reducible refine Kd.C_drewN ?_ _) | (with_reducible refine Kd.C_drew ?_))); (case side2 => exact (Kd.R_reads' HO321.out).2.1); (case side3 => repeat (first | exact (Kd.R_reads' HO_5.out).2.2 | (with_reducible refine Kd.C_alloc ?_ _) | (with_reducible refine Kd.C_drewN ?_ _) | (with_reducible refine Kd.C_drew ?_))); (case side4 => exact (Kd.R_reads' HO_5.out).2.1); rintro e w' ⟨rfl, ⟨nd, rfl⟩⟩))
            go_ret
            exact ⟨by first | rfl | (simp [errW_none, errW_some] <;> rfl) | (simp [*, errW_none, errW_some] <;> rfl), Bl⟩
          ·replace c24 := Bool.eq_false_iff.mpr c24
           subst c24
           have H1 : (some false) = some r := by rw [if_neg (show ¬ (false = true) by decide)] at H; exact H
           clear H
           have H := H1
           clear H1
           obtain rfl := Option.some.inj H
           go_wp2_with (first | ((with_reducible refine gate_callee (f := 25) rfl ?_); refine goesL_ (some 70) rfl rfl Try.func25 (by kernel_rfl) rfl #[.string t313] rfl Mt ?_; (with_reducible refine (impl_ReadSegment.calls kj6 t313 t317 t318 true _ A16.out).mono ?_); rintro e w57 ⟨v320, rfl, ho0, hb⟩; refine ⟨_, rfl, ?_⟩; have n0_ := Aside0.mk (Kd.R_elder' (by (with_reducible repeat (first | apply Kd.R_alloc | apply Kd.R_drewN | apply Kd.R_drew)); exact HO_5.out) (Kd.R_base ho0) hb); have n1_ := Aside0.mk (Kd.R_lower (Kd.R_new' ho0 (Kd.R_lt (by (with_reducible repeat (first | apply Kd.R_alloc | apply Kd.R_drewN | apply Kd.R_drew)); exact HO_5.out))) (below_size Bl)); have n2_ := Aside0.mk (below_step Bl hb); clear HO_5; clear HB; have HO_5 := n0_; have HO321 := n1_; have HB := n2_; clear n0_ n1_ n2_; (try clear hb); (try clear hb2); (try clear hk); (try clear hi); (try clear ho0)) | ((with_reducible refine gate_callee (f := 32) rfl ?_); refine goesL_ (some 77) rfl rfl Try.func32 (by kernel_rfl) rfl #[.slice A1 l1.length c1] rfl Mt ?_; (with_reducible refine (laws_numberOf.calls kj6 _ _ l1 t322 _ ?side1 ?side2 A17.out).mono ?_); (case side1 => repeat (first | exact (Kd.C_below HR1.out HB.out) | (with_reducible refine Kd.C_alloc ?_ _) | (with_reducible refine Kd.C_drewN ?_ _) | (with_reducible refine Kd.C_drew ?_))); (case side2 => exact HC1.out); rintro e w' ⟨rfl, ⟨nd, rfl⟩⟩; refine ⟨_, rfl, ?_⟩) | ((with_reducible refine gate_callee (f := 18) rfl ?_); refine goesL_ (some 82) rfl rfl Try.func18 (by kernel_rfl) rfl #[.string t313, .int .i64 (Int.tmod t322 (wrap64 ((t313.size : Int) + 1)))] rfl Mt ?_; (with_reducible refine (impl_TornSegment.calls kj6 t313 (Int.tmod t322 (wrap64 ((t313.size : Int) + 1))) t323 t324 _ A19.out).mono ?_); rintro e w58 ⟨rfl, hb⟩; refine ⟨_, rfl, ?_⟩; have n0_ := Aside0.mk (Kd.R_below (by (with_reducible repeat (first | apply Kd.R_alloc | apply Kd.R_drewN | apply Kd.R_drew)); exact HO_5.out) hb); have n1_ := Aside0.mk (Kd.R_below (by (with_reducible repeat (first | apply Kd.R_alloc | apply Kd.R_drewN | apply Kd.R_drew)); exact HO321.out) hb); have n2_ := Aside0.mk (below_step Bl hb); clear HO_5; clear HO321; clear HB; have HO_5 := n0_; have HO321 := n1_; have HB := n2_; clear n0_ n1_ n2_; (try clear hb); (try clear hb2); (try clear hk); (try clear hi)) | ((with_reducible refine gate_callee (f := 25) rfl ?_); refine goesL_ (some 87) rfl rfl Try.func25 (by kernel_rfl) rfl #[.string t323] rfl Mt ?_; (with_reducible refine (impl_ReadSegment.calls kj6 t323 t325 t326 t327 _ A20.out).mono ?_); rintro e w59 ⟨v328, rfl, ho0, hb⟩; refine ⟨_, rfl, ?_⟩; have n0_ := Aside0.mk (Kd.R_elder' (by (with_reducible repeat (first | apply Kd.R_alloc | apply Kd.R_drewN | apply Kd.R_drew)); exact HO_5.out) (Kd.R_base ho0) hb); have n1_ := Aside0.mk (Kd.R_elder' (by (with_reducible repeat (first | apply Kd.R_alloc | apply Kd.R_drewN | apply Kd.R_drew)); exact HO321.out) (Kd.R_base ho0) hb); have n2_ := Aside0.mk (Kd.R_lower (Kd.R_new' (Kd.R_new' ho0 (Kd.R_lt (by (with_reducible repeat (first | apply Kd.R_alloc | apply Kd.R_drewN | apply Kd.R_drew)); exact HO_5.out))) (Kd.R_lt (by (with_reducible repeat (first | apply Kd.R_alloc | apply Kd.R_drewN | apply Kd.R_drew)); exact HO321.out))) (below_size Bl)); have n3_ := Aside0.mk (below_step Bl hb); clear HO_5; clear HO321; clear HB; have HO_5 := n0_; have HO321 := n1_; have HO329 := n2_; have HB := n3_; clear n0_ n1_ n2_ n3_; (try clear hb); (try clear hb2); (try clear hk); (try clear hi); (try clear ho0); obtain ⟨Ao60, co60, eo60⟩ := Kd.R_slice HO321.out; subst eo60) | (go_at_call 42; (with_reducible refine (laws_sameRecords.calls kj6 _ _ t317 _ _ t310 false _ ?side1 ?side2 ?side3 ?side4 A23.out).mono ?_); (case side1 => repeat (first | exact (Kd.R_reads' HO321.out).2.2 | (with_reducible refine Kd.C_alloc ?_ _) | (with_reducible refine Kd.C_drewN ?_ _) | (with_reducible refine Kd.C_drew ?_))); (case side2 => exact (Kd.R_reads' HO321.out).2.1); (case side3 => repeat (first | exact (Kd.R_reads' HO_5.out).2.2 | (with_reducible refine Kd.C_alloc ?_ _) | (with_reducible refine Kd.C_drewN ?_ _) | (with_reducible refine Kd.C_drew ?_))); (case side4 => exact (Kd.R_reads' HO_5.out).2.1); rintro e w' ⟨rfl, ⟨nd, rfl⟩⟩))
           go_ret
           exact ⟨by first | rfl | (simp [errW_none, errW_some] <;> rfl) | (simp [*, errW_none, errW_some] <;> rfl), Bl⟩
         ·rw [if_neg c22] at H
          have c22b0 : (t318 == (t313.size : Int)) = false := beq_eq_false_iff_ne.mpr c22
          have c22b1 : (t318 != (t313.size : Int)) = true := bne_iff_ne.mpr c22
          obtain rfl := Option.some.inj H
          go_wp2_with (first | ((with_reducible refine gate_callee (f := 25) rfl ?_); refine goesL_ (some 70) rfl rfl Try.func25 (by kernel_rfl) rfl #[.string t313] rfl Mt ?_; (with_reducible refine (impl_ReadSegment.calls kj6 t313 t317 t318 true _ A16.out).mono ?_); rintro e w61 ⟨v320, rfl, ho0, hb⟩; refine ⟨_, rfl, ?_⟩; have n0_ := Aside0.mk (Kd.R_elder' (by (with_reducible repeat (first | apply Kd.R_alloc | apply Kd.R_drewN | apply Kd.R_drew)); exact HO_5.out) (Kd.R_base ho0) hb); have n1_ := Aside0.mk (Kd.R_lower (Kd.R_new' ho0 (Kd.R_lt (by (with_reducible repeat (first | apply Kd.R_alloc | apply Kd.R_drewN | apply Kd.R_drew)); exact HO_5.out))) (below_size Bl)); have n2_ := Aside0.mk (below_step Bl hb); clear HO_5; clear HB; have HO_5 := n0_; have HO321 := n1_; have HB := n2_; clear n0_ n1_ n2_; (try clear hb); (try clear hb2); (try clear hk); (try clear hi); (try clear ho0)) | ((with_reducible refine gate_callee (f := 32) rfl ?_); refine goesL_ (some 77) rfl rfl Try.func32 (by kernel_rfl) rfl #[.slice A1 l1.length c1] rfl Mt ?_; (with_reducible refine (laws_numberOf.calls kj6 _ _ l1 t322 _ ?side1 ?side2 A17.out).mono ?_); (case side1 => repeat (first | exact (Kd.C_below HR1.out HB.out) | (with_reducible refine Kd.C_alloc ?_ _) | (with_reducible refine Kd.C_drewN ?_ _) | (with_reducible refine Kd.C_drew ?_))); (case side2 => exact HC1.out); rintro e w' ⟨rfl, ⟨nd, rfl⟩⟩; refine ⟨_, rfl, ?_⟩) | ((with_reducible refine gate_callee (f := 18) rfl ?_); refine goesL_ (some 82) rfl rfl Try.func18 (by kernel_rfl) rfl #[.string t313, .int .i64 (Int.tmod t322 (wrap64 ((t313.size : Int) + 1)))] rfl Mt ?_; (with_reducible refine (impl_TornSegment.calls kj6 t313 (Int.tmod t322 (wrap64 ((t313.size : Int) + 1))) t323 t324 _ A19.out).mono ?_); rintro e w62 ⟨rfl, hb⟩; refine ⟨_, rfl, ?_⟩; have n0_ := Aside0.mk (Kd.R_below (by (with_reducible repeat (first | apply Kd.R_alloc | apply Kd.R_drewN | apply Kd.R_drew)); exact HO_5.out) hb); have n1_ := Aside0.mk (Kd.R_below (by (with_reducible repeat (first | apply Kd.R_alloc | apply Kd.R_drewN | apply Kd.R_drew)); exact HO321.out) hb); have n2_ := Aside0.mk (below_step Bl hb); clear HO_5; clear HO321; clear HB; have HO_5 := n0_; have HO321 := n1_; have HB := n2_; clear n0_ n1_ n2_; (try clear hb); (try clear hb2); (try clear hk); (try clear hi)) | ((with_reducible refine gate_callee (f := 25) rfl ?_); refine goesL_ (some 87) rfl rfl Try.func25 (by kernel_rfl) rfl #[.string t323] rfl Mt ?_; (with_reducible refine (impl_ReadSegment.calls kj6 t323 t325 t326 t327 _ A20.out).mono ?_); rintro e w63 ⟨v328, rfl, ho0, hb⟩; refine ⟨_, rfl, ?_⟩; have n0_ := Aside0.mk (Kd.R_elder' (by (with_reducible repeat (first | apply Kd.R_alloc | apply Kd.R_drewN | apply Kd.R_drew)); exact HO_5.out) (Kd.R_base ho0) hb); have n1_ := Aside0.mk (Kd.R_elder' (by (with_reducible repeat (first | apply Kd.R_alloc | apply Kd.R_drewN | apply Kd.R_drew)); exact HO321.out) (Kd.R_base ho0) hb); have n2_ := Aside0.mk (Kd.R_lower (Kd.R_new' (Kd.R_new' ho0 (Kd.R_lt (by (with_reducible repeat (first | apply Kd.R_alloc | apply Kd.R_drewN | apply Kd.R_drew)); exact HO_5.out))) (Kd.R_lt (by (with_reducible repeat (first | apply Kd.R_alloc | apply Kd.R_drewN | apply Kd.R_drew)); exact HO321.out))) (below_size Bl)); have n3_ := Aside0.mk (below_step Bl hb); clear HO_5; clear HO321; clear HB; have HO_5 := n0_; have HO321 := n1_; have HO329 := n2_; have HB := n3_; clear n0_ n1_ n2_ n3_; (try clear hb); (try clear hb2); (try clear hk); (try clear hi); (try clear ho0)))
          go_ret
          exact ⟨by first | rfl | (simp [errW_none, errW_some] <;> rfl) | (simp [*, errW_none, errW_some] <;> rfl), Bl⟩
        ·replace c21 := Bool.eq_false_iff.mpr c21
         subst c21
         have H1 : (some false) = some r := by rw [if_neg (show ¬ (false = true) by decide)] at H; exact H
         clear H
         have H := H1
         clear H1
         obtain rfl := Option.some.inj H
         go_wp2_with (first | ((with_reducible refine gate_callee (f := 25) rfl ?_); refine goesL_ (some 70) rfl rfl Try.func25 (by kernel_rfl) rfl #[.string t313] rfl Mt ?_; (with_reducible refine (impl_ReadSegment.calls kj6 t313 t317 t318 false _ A16.out).mono ?_); rintro e w64 ⟨v320, rfl, ho0, hb⟩; refine ⟨_, rfl, ?_⟩; have n0_ := Aside0.mk (Kd.R_elder' (by (with_reducible repeat (first | apply Kd.R_alloc | apply Kd.R_drewN | apply Kd.R_drew)); exact HO_5.out) (Kd.R_base ho0) hb); have n1_ := Aside0.mk (Kd.R_lower (Kd.R_new' ho0 (Kd.R_lt (by (with_reducible repeat (first | apply Kd.R_alloc | apply Kd.R_drewN | apply Kd.R_drew)); exact HO_5.out))) (below_size Bl)); have n2_ := Aside0.mk (below_step Bl hb); clear HO_5; clear HB; have HO_5 := n0_; have HO321 := n1_; have HB := n2_; clear n0_ n1_ n2_; (try clear hb); (try clear hb2); (try clear hk); (try clear hi); (try clear ho0)) | ((with_reducible refine gate_callee (f := 32) rfl ?_); refine goesL_ (some 77) rfl rfl Try.func32 (by kernel_rfl) rfl #[.slice A1 l1.length c1] rfl Mt ?_; (with_reducible refine (laws_numberOf.calls kj6 _ _ l1 t322 _ ?side1 ?side2 A17.out).mono ?_); (case side1 => repeat (first | exact (Kd.C_below HR1.out HB.out) | (with_reducible refine Kd.C_alloc ?_ _) | (with_reducible refine Kd.C_drewN ?_ _) | (with_reducible refine Kd.C_drew ?_))); (case side2 => exact HC1.out); rintro e w' ⟨rfl, ⟨nd, rfl⟩⟩; refine ⟨_, rfl, ?_⟩) | ((with_reducible refine gate_callee (f := 18) rfl ?_); refine goesL_ (some 82) rfl rfl Try.func18 (by kernel_rfl) rfl #[.string t313, .int .i64 (Int.tmod t322 (wrap64 ((t313.size : Int) + 1)))] rfl Mt ?_; (with_reducible refine (impl_TornSegment.calls kj6 t313 (Int.tmod t322 (wrap64 ((t313.size : Int) + 1))) t323 t324 _ A19.out).mono ?_); rintro e w65 ⟨rfl, hb⟩; refine ⟨_, rfl, ?_⟩; have n0_ := Aside0.mk (Kd.R_below (by (with_reducible repeat (first | apply Kd.R_alloc | apply Kd.R_drewN | apply Kd.R_drew)); exact HO_5.out) hb); have n1_ := Aside0.mk (Kd.R_below (by (with_reducible repeat (first | apply Kd.R_alloc | apply Kd.R_drewN | apply Kd.R_drew)); exact HO321.out) hb); have n2_ := Aside0.mk (below_step Bl hb); clear HO_5; clear HO321; clear HB; have HO_5 := n0_; have HO321 := n1_; have HB := n2_; clear n0_ n1_ n2_; (try clear hb); (try clear hb2); (try clear hk); (try clear hi)) | ((with_reducible refine gate_callee (f := 25) rfl ?_); refine goesL_ (some 87) rfl rfl Try.func25 (by kernel_rfl) rfl #[.string t323] rfl Mt ?_; (with_reducible refine (impl_ReadSegment.calls kj6 t323 t325 t326 t327 _ A20.out).mono ?_); rintro e w66 ⟨v328, rfl, ho0, hb⟩; refine ⟨_, rfl, ?_⟩; have n0_ := Aside0.mk (Kd.R_elder' (by (with_reducible repeat (first | apply Kd.R_alloc | apply Kd.R_drewN | apply Kd.R_drew)); exact HO_5.out) (Kd.R_base ho0) hb); have n1_ := Aside0.mk (Kd.R_elder' (by (with_reducible repeat (first | apply Kd.R_alloc | apply Kd.R_drewN | apply Kd.R_drew)); exact HO321.out) (Kd.R_base ho0) hb); have n2_ := Aside0.mk (Kd.R_lower (Kd.R_new' (Kd.R_new' ho0 (Kd.R_lt (by (with_reducible repeat (first | apply Kd.R_alloc | apply Kd.R_drewN | apply Kd.R_drew)); exact HO_5.out))) (Kd.R_lt (by (with_reducible repeat (first | apply Kd.R_alloc | apply Kd.R_drewN | apply Kd.R_drew)); exact HO321.out))) (below_size Bl)); have n3_ := Aside0.mk (below_step Bl hb); clear HO_5; clear HO321; clear HB; have HO_5 := n0_; have HO321 := n1_; have HO329 := n2_; have HB := n3_; clear n0_ n1_ n2_ n3_; (try clear hb); (try clear hb2); (try clear hk); (try clear hi); (try clear ho0)))
         go_ret
         exact ⟨by first | rfl | (simp [errW_none, errW_some] <;> rfl) | (simp [*, errW_none, errW_some] <;> rfl), Bl⟩
      ·replace c15 := Bool.eq_false_iff.mpr c15
       subst c15
       have H1 : (laws_FnRecords.j1 kj6 l1) = some r := by rw [if_neg (show ¬ (false = true) by decide)] at H; exact H
       clear H
       have H := H1
       clear H1
       have H' := Aside0.mk H
       clear H
       go_wp2
       go_meet
       case rel => exact ⟨_, H', ⟨by have := HJ6.out; first | omega | exact Nat.le_refl _⟩, ⟨Bl⟩⟩
     case rest => as_aux_lemma =>
      clear HC14
      try clear c1
      try clear c2
      try clear p2
      try clear c3
      try clear c3b0
      try clear c4
      try clear q4
      try clear p6
      try clear c9
      try clear c12
      try clear c12b0
      try clear c12b1
      try clear c12b2
      try clear c13
      try clear c15
      try clear c18
      try clear c18b0
      try clear c18b1
      try clear c20
      try clear c21
      try clear c22
      try clear c22b0
      try clear c22b1
      try clear c24
      try clear c25
      try clear c26
      try clear c27
      try clear c27b0
      try clear c27b1
      try clear c32
      try clear c33
      try clear c33b0
      try clear c33b1
      try clear c34
      try clear c34b0
      try clear c34b1
      try clear c36
      try clear c41
      try clear q42
      try clear q48
      try clear p64
      try clear p2
      try clear p6
      try clear q42
      try clear q48
      obtain ⟨kq, HA, HJ13, HB⟩ := hcut
      cases kq with
      | zero => exact absurd HA.out (by simp [laws_FnRecords.j1])
      | succ kj13 =>
       have H := HA.out
       clear HA
       simp only [laws_FnRecords.j1] at H
       replace H := Option.bind_eq_some_iff.mp H
       obtain ⟨t336, A670, H⟩ := H
       replace H : ((impl_ReadSegment.f kj13 t336).bind fun bt337 => ((spec_ReadSegment.f kj13 t336).bind fun bt342 => ((spec_DrawTornSegment.f kj13 l1).bind fun bt347 => ((impl_TornSegment.f kj13 bt347.1 bt347.2).bind fun bt349 => ((spec_TornSegment.f kj13 bt347.1 bt347.2).bind fun bt351 => ((spec_DrawReadRecord.f kj13 l1).bind fun bt353 => ((impl_ReadRecord.f kj13 bt353.1 bt353.2).bind fun bt355 => ((spec_ReadRecord.f kj13 bt353.1 bt353.2).bind fun bt362 => (if (bt337.2.2 != bt342.2.2) = true then (laws_FnRecords.j2 kj13 bt353.1 bt353.2 bt355.2.2.2.2.1 bt355.2.2.2.2.2 true bt355.1 bt355.2.1 bt355.2.2.1 bt355.2.2.2.1) else (if bt337.2.1 = bt342.2.1 then ((laws_sameRecords.f kj13 bt337.1 bt342.1).bind fun t369 => (if t369 = true then (if (bt349.2 != bt351.2) = true then (laws_FnRecords.j2 kj13 bt353.1 bt353.2 bt355.2.2.2.2.1 bt355.2.2.2.2.2 true bt355.1 bt355.2.1 bt355.2.2.1 bt355.2.2.2.1) else (if bt349.1.toList = bt351.1.toList then (if (bt355.2.2.2.2.2 != bt362.2.2.2.2.2) = true then (laws_FnRecords.j2 kj13 bt353.1 bt353.2 bt355.2.2.2.2.1 bt355.2.2.2.2.2 true bt355.1 bt355.2.1 bt355.2.2.1 bt355.2.2.2.1) else (if bt355.2.2.2.2.1 = bt362.2.2.2.2.1 then (laws_FnRecords.j2 kj13 bt353.1 bt353.2 bt355.2.2.2.2.1 bt355.2.2.2.2.2 (!(bt355.1 == bt362.1) || (!(bt355.2.1 == bt362.2.1) || (!(bt355.2.2.1 == bt362.2.2.1) || (!(bt355.2.2.2.1.toList == bt362.2.2.2.1.toList))))) bt355.1 bt355.2.1 bt355.2.2.1 bt355.2.2.2.1) else (laws_FnRecords.j2 kj13 bt353.1 bt353.2 bt355.2.2.2.2.1 bt355.2.2.2.2.2 true bt355.1 bt355.2.1 bt355.2.2.1 bt355.2.2.2.1))) else (laws_FnRecords.j2 kj13 bt353.1 bt353.2 bt355.2.2.2.2.1 bt355.2.2.2.2.2 true bt355.1 bt355.2.1 bt355.2.2.1 bt355.2.2.2.1))) else (laws_FnRecords.j2 kj13 bt353.1 bt353.2 bt355.2.2.2.2.1 bt355.2.2.2.2.2 true bt355.1 bt355.2.1 bt355.2.2.1 bt355.2.2.2.1))) else (laws_FnRecords.j2 kj13 bt353.1 bt353.2 bt355.2.2.2.2.1 bt355.2.2.2.2.2 true bt355.1 bt355.2.1 bt355.2.2.1 bt355.2.2.2.1))))))))))) = some r := H
       have A67 := Aside0.mk A670
       clear A670
       replace H := Option.bind_eq_some_iff.mp H
       obtain ⟨⟨t337, t338, t339⟩, A680, H⟩ := H
       replace H : ((spec_ReadSegment.f kj13 t336).bind fun bt342 => ((spec_DrawTornSegment.f kj13 l1).bind fun bt347 => ((impl_TornSegment.f kj13 bt347.1 bt347.2).bind fun bt349 => ((spec_TornSegment.f kj13 bt347.1 bt347.2).bind fun bt351 => ((spec_DrawReadRecord.f kj13 l1).bind fun bt353 => ((impl_ReadRecord.f kj13 bt353.1 bt353.2).bind fun bt355 => ((spec_ReadRecord.f kj13 bt353.1 bt353.2).bind fun bt362 => (if (t339 != bt342.2.2) = true then (laws_FnRecords.j2 kj13 bt353.1 bt353.2 bt355.2.2.2.2.1 bt355.2.2.2.2.2 true bt355.1 bt355.2.1 bt355.2.2.1 bt355.2.2.2.1) else (if t338 = bt342.2.1 then ((laws_sameRecords.f kj13 t337 bt342.1).bind fun t369 => (if t369 = true then (if (bt349.2 != bt351.2) = true then (laws_FnRecords.j2 kj13 bt353.1 bt353.2 bt355.2.2.2.2.1 bt355.2.2.2.2.2 true bt355.1 bt355.2.1 bt355.2.2.1 bt355.2.2.2.1) else (if bt349.1.toList = bt351.1.toList then (if (bt355.2.2.2.2.2 != bt362.2.2.2.2.2) = true then (laws_FnRecords.j2 kj13 bt353.1 bt353.2 bt355.2.2.2.2.1 bt355.2.2.2.2.2 true bt355.1 bt355.2.1 bt355.2.2.1 bt355.2.2.2.1) else (if bt355.2.2.2.2.1 = bt362.2.2.2.2.1 then (laws_FnRecords.j2 kj13 bt353.1 bt353.2 bt355.2.2.2.2.1 bt355.2.2.2.2.2 (!(bt355.1 == bt362.1) || (!(bt355.2.1 == bt362.2.1) || (!(bt355.2.2.1 == bt362.2.2.1) || (!(bt355.2.2.2.1.toList == bt362.2.2.2.1.toList))))) bt355.1 bt355.2.1 bt355.2.2.1 bt355.2.2.2.1) else (laws_FnRecords.j2 kj13 bt353.1 bt353.2 bt355.2.2.2.2.1 bt355.2.2.2.2.2 true bt355.1 bt355.2.1 bt355.2.2.1 bt355.2.2.2.1))) else (laws_FnRecords.j2 kj13 bt353.1 bt353.2 bt355.2.2.2.2.1 bt355.2.2.2.2.2 true bt355.1 bt355.2.1 bt355.2.2.1 bt355.2.2.2.1))) else (laws_FnRecords.j2 kj13 bt353.1 bt353.2 bt355.2.2.2.2.1 bt355.2.2.2.2.2 true bt355.1 bt355.2.1 bt355.2.2.1 bt355.2.2.2.1))) else (laws_FnRecords.j2 kj13 bt353.1 bt353.2 bt355.2.2.2.2.1 bt355.2.2.2.2.2 true bt355.1 bt355.2.1 bt355.2.2.1 bt355.2.2.2.1)))))))))) = some r := H
       have A68 := Aside0.mk A680
       clear A680
       replace H := Option.bind_eq_some_iff.mp H
       obtain ⟨⟨t342, t343, t344⟩, A690, H⟩ := H
       replace H : ((spec_DrawTornSegment.f kj13 l1).bind fun bt347 => ((impl_TornSegment.f kj13 bt347.1 bt347.2).bind fun bt349 => ((spec_TornSegment.f kj13 bt347.1 bt347.2).bind fun bt351 => ((spec_DrawReadRecord.f kj13 l1).bind fun bt353 => ((impl_ReadRecord.f kj13 bt353.1 bt353.2).bind fun bt355 => ((spec_ReadRecord.f kj13 bt353.1 bt353.2).bind fun bt362 => (if (t339 != t344) = true then (laws_FnRecords.j2 kj13 bt353.1 bt353.2 bt355.2.2.2.2.1 bt355.2.2.2.2.2 true bt355.1 bt355.2.1 bt355.2.2.1 bt355.2.2.2.1) else (if t338 = t343 then ((laws_sameRecords.f kj13 t337 t342).bind fun t369 => (if t369 = true then (if (bt349.2 != bt351.2) = true then (laws_FnRecords.j2 kj13 bt353.1 bt353.2 bt355.2.2.2.2.1 bt355.2.2.2.2.2 true bt355.1 bt355.2.1 bt355.2.2.1 bt355.2.2.2.1) else (if bt349.1.toList = bt351.1.toList then (if (bt355.2.2.2.2.2 != bt362.2.2.2.2.2) = true then (laws_FnRecords.j2 kj13 bt353.1 bt353.2 bt355.2.2.2.2.1 bt355.2.2.2.2.2 true bt355.1 bt355.2.1 bt355.2.2.1 bt355.2.2.2.1) else (if bt355.2.2.2.2.1 = bt362.2.2.2.2.1 then (laws_FnRecords.j2 kj13 bt353.1 bt353.2 bt355.2.2.2.2.1 bt355.2.2.2.2.2 (!(bt355.1 == bt362.1) || (!(bt355.2.1 == bt362.2.1) || (!(bt355.2.2.1 == bt362.2.2.1) || (!(bt355.2.2.2.1.toList == bt362.2.2.2.1.toList))))) bt355.1 bt355.2.1 bt355.2.2.1 bt355.2.2.2.1) else (laws_FnRecords.j2 kj13 bt353.1 bt353.2 bt355.2.2.2.2.1 bt355.2.2.2.2.2 true bt355.1 bt355.2.1 bt355.2.2.1 bt355.2.2.2.1))) else (laws_FnRecords.j2 kj13 bt353.1 bt353.2 bt355.2.2.2.2.1 bt355.2.2.2.2.2 true bt355.1 bt355.2.1 bt355.2.2.1 bt355.2.2.2.1))) else (laws_FnRecords.j2 kj13 bt353.1 bt353.2 bt355.2.2.2.2.1 bt355.2.2.2.2.2 true bt355.1 bt355.2.1 bt355.2.2.1 bt355.2.2.2.1))) else (laws_FnRecords.j2 kj13 bt353.1 bt353.2 bt355.2.2.2.2.1 bt355.2.2.2.2.2 true bt355.1 bt355.2.1 bt355.2.2.1 bt355.2.2.2.1))))))))) = some r := H
       have A69 := Aside0.mk A690
       clear A690
       replace H := Option.bind_eq_some_iff.mp H
       obtain ⟨⟨t347, t348⟩, A700, H⟩ := H
       replace H : ((impl_TornSegment.f kj13 t347 t348).bind fun bt349 => ((spec_TornSegment.f kj13 t347 t348).bind fun bt351 => ((spec_DrawReadRecord.f kj13 l1).bind fun bt353 => ((impl_ReadRecord.f kj13 bt353.1 bt353.2).bind fun bt355 => ((spec_ReadRecord.f kj13 bt353.1 bt353.2).bind fun bt362 => (if (t339 != t344) = true then (laws_FnRecords.j2 kj13 bt353.1 bt353.2 bt355.2.2.2.2.1 bt355.2.2.2.2.2 true bt355.1 bt355.2.1 bt355.2.2.1 bt355.2.2.2.1) else (if t338 = t343 then ((laws_sameRecords.f kj13 t337 t342).bind fun t369 => (if t369 = true then (if (bt349.2 != bt351.2) = true then (laws_FnRecords.j2 kj13 bt353.1 bt353.2 bt355.2.2.2.2.1 bt355.2.2.2.2.2 true bt355.1 bt355.2.1 bt355.2.2.1 bt355.2.2.2.1) else (if bt349.1.toList = bt351.1.toList then (if (bt355.2.2.2.2.2 != bt362.2.2.2.2.2) = true then (laws_FnRecords.j2 kj13 bt353.1 bt353.2 bt355.2.2.2.2.1 bt355.2.2.2.2.2 true bt355.1 bt355.2.1 bt355.2.2.1 bt355.2.2.2.1) else (if bt355.2.2.2.2.1 = bt362.2.2.2.2.1 then (laws_FnRecords.j2 kj13 bt353.1 bt353.2 bt355.2.2.2.2.1 bt355.2.2.2.2.2 (!(bt355.1 == bt362.1) || (!(bt355.2.1 == bt362.2.1) || (!(bt355.2.2.1 == bt362.2.2.1) || (!(bt355.2.2.2.1.toList == bt362.2.2.2.1.toList))))) bt355.1 bt355.2.1 bt355.2.2.1 bt355.2.2.2.1) else (laws_FnRecords.j2 kj13 bt353.1 bt353.2 bt355.2.2.2.2.1 bt355.2.2.2.2.2 true bt355.1 bt355.2.1 bt355.2.2.1 bt355.2.2.2.1))) else (laws_FnRecords.j2 kj13 bt353.1 bt353.2 bt355.2.2.2.2.1 bt355.2.2.2.2.2 true bt355.1 bt355.2.1 bt355.2.2.1 bt355.2.2.2.1))) else (laws_FnRecords.j2 kj13 bt353.1 bt353.2 bt355.2.2.2.2.1 bt355.2.2.2.2.2 true bt355.1 bt355.2.1 bt355.2.2.1 bt355.2.2.2.1))) else (laws_FnRecords.j2 kj13 bt353.1 bt353.2 bt355.2.2.2.2.1 bt355.2.2.2.2.2 true bt355.1 bt355.2.1 bt355.2.2.1 bt355.2.2.2.1)))))))) = some r := H
       have A70 := Aside0.mk A700
       clear A700
       replace H := Option.bind_eq_some_iff.mp H
       obtain ⟨⟨t349, t350⟩, A710, H⟩ := H
       replace H : ((spec_TornSegment.f kj13 t347 t348).bind fun bt351 => ((spec_DrawReadRecord.f kj13 l1).bind fun bt353 => ((impl_ReadRecord.f kj13 bt353.1 bt353.2).bind fun bt355 => ((spec_ReadRecord.f kj13 bt353.1 bt353.2).bind fun bt362 => (if (t339 != t344) = true then (laws_FnRecords.j2 kj13 bt353.1 bt353.2 bt355.2.2.2.2.1 bt355.2.2.2.2.2 true bt355.1 bt355.2.1 bt355.2.2.1 bt355.2.2.2.1) else (if t338 = t343 then ((laws_sameRecords.f kj13 t337 t342).bind fun t369 => (if t369 = true then (if (t350 != bt351.2) = true then (laws_FnRecords.j2 kj13 bt353.1 bt353.2 bt355.2.2.2.2.1 bt355.2.2.2.2.2 true bt355.1 bt355.2.1 bt355.2.2.1 bt355.2.2.2.1) else (if t349.toList = bt351.1.toList then (if (bt355.2.2.2.2.2 != bt362.2.2.2.2.2) = true then (laws_FnRecords.j2 kj13 bt353.1 bt353.2 bt355.2.2.2.2.1 bt355.2.2.2.2.2 true bt355.1 bt355.2.1 bt355.2.2.1 bt355.2.2.2.1) else (if bt355.2.2.2.2.1 = bt362.2.2.2.2.1 then (laws_FnRecords.j2 kj13 bt353.1 bt353.2 bt355.2.2.2.2.1 bt355.2.2.2.2.2 (!(bt355.1 == bt362.1) || (!(bt355.2.1 == bt362.2.1) || (!(bt355.2.2.1 == bt362.2.2.1) || (!(bt355.2.2.2.1.toList == bt362.2.2.2.1.toList))))) bt355.1 bt355.2.1 bt355.2.2.1 bt355.2.2.2.1) else (laws_FnRecords.j2 kj13 bt353.1 bt353.2 bt355.2.2.2.2.1 bt355.2.2.2.2.2 true bt355.1 bt355.2.1 bt355.2.2.1 bt355.2.2.2.1))) else (laws_FnRecords.j2 kj13 bt353.1 bt353.2 bt355.2.2.2.2.1 bt355.2.2.2.2.2 true bt355.1 bt355.2.1 bt355.2.2.1 bt355.2.2.2.1))) else (laws_FnRecords.j2 kj13 bt353.1 bt353.2 bt355.2.2.2.2.1 bt355.2.2.2.2.2 true bt355.1 bt355.2.1 bt355.2.2.1 bt355.2.2.2.1))) else (laws_FnRecords.j2 kj13 bt353.1 bt353.2 bt355.2.2.2.2.1 bt355.2.2.2.2.2 true bt355.1 bt355.2.1 bt355.2.2.1 bt355.2.2.2.1))))))) = some r := H
       have A71 := Aside0.mk A710
       clear A710
       replace H := Option.bind_eq_some_iff.mp H
       obtain ⟨⟨t351, t352⟩, A720, H⟩ := H
       replace H : ((spec_DrawReadRecord.f kj13 l1).bind fun bt353 => ((impl_ReadRecord.f kj13 bt353.1 bt353.2).bind fun bt355 => ((spec_ReadRecord.f kj13 bt353.1 bt353.2).bind fun bt362 => (if (t339 != t344) = true then (laws_FnRecords.j2 kj13 bt353.1 bt353.2 bt355.2.2.2.2.1 bt355.2.2.2.2.2 true bt355.1 bt355.2.1 bt355.2.2.1 bt355.2.2.2.1) else (if t338 = t343 then ((laws_sameRecords.f kj13 t337 t342).bind fun t369 => (if t369 = true then (if (t350 != t352) = true then (laws_FnRecords.j2 kj13 bt353.1 bt353.2 bt355.2.2.2.2.1 bt355.2.2.2.2.2 true bt355.1 bt355.2.1 bt355.2.2.1 bt355.2.2.2.1) else (if t349.toList = t351.toList then (if (bt355.2.2.2.2.2 != bt362.2.2.2.2.2) = true then (laws_FnRecords.j2 kj13 bt353.1 bt353.2 bt355.2.2.2.2.1 bt355.2.2.2.2.2 true bt355.1 bt355.2.1 bt355.2.2.1 bt355.2.2.2.1) else (if bt355.2.2.2.2.1 = bt362.2.2.2.2.1 then (laws_FnRecords.j2 kj13 bt353.1 bt353.2 bt355.2.2.2.2.1 bt355.2.2.2.2.2 (!(bt355.1 == bt362.1) || (!(bt355.2.1 == bt362.2.1) || (!(bt355.2.2.1 == bt362.2.2.1) || (!(bt355.2.2.2.1.toList == bt362.2.2.2.1.toList))))) bt355.1 bt355.2.1 bt355.2.2.1 bt355.2.2.2.1) else (laws_FnRecords.j2 kj13 bt353.1 bt353.2 bt355.2.2.2.2.1 bt355.2.2.2.2.2 true bt355.1 bt355.2.1 bt355.2.2.1 bt355.2.2.2.1))) else (laws_FnRecords.j2 kj13 bt353.1 bt353.2 bt355.2.2.2.2.1 bt355.2.2.2.2.2 true bt355.1 bt355.2.1 bt355.2.2.1 bt355.2.2.2.1))) else (laws_FnRecords.j2 kj13 bt353.1 bt353.2 bt355.2.2.2.2.1 bt355.2.2.2.2.2 true bt355.1 bt355.2.1 bt355.2.2.1 bt355.2.2.2.1))) else (laws_FnRecords.j2 kj13 bt353.1 bt353.2 bt355.2.2.2.2.1 bt355.2.2.2.2.2 true bt355.1 bt355.2.1 bt355.2.2.1 bt355.2.2.2.1)))))) = some r := H
       have A72 := Aside0.mk A720
       clear A720
       replace H := Option.bind_eq_some_iff.mp H
       obtain ⟨⟨t353, t354⟩, A730, H⟩ := H
       replace H : ((impl_ReadRecord.f kj13 t353 t354).bind fun bt355 => ((spec_ReadRecord.f kj13 t353 t354).bind fun bt362 => (if (t339 != t344) = true then (laws_FnRecords.j2 kj13 t353 t354 bt355.2.2.2.2.1 bt355.2.2.2.2.2 true bt355.1 bt355.2.1 bt355.2.2.1 bt355.2.2.2.1) else (if t338 = t343 then ((laws_sameRecords.f kj13 t337 t342).bind fun t369 => (if t369 = true then (if (t350 != t352) = true then (laws_FnRecords.j2 kj13 t353 t354 bt355.2.2.2.2.1 bt355.2.2.2.2.2 true bt355.1 bt355.2.1 bt355.2.2.1 bt355.2.2.2.1) else (if t349.toList = t351.toList then (if (bt355.2.2.2.2.2 != bt362.2.2.2.2.2) = true then (laws_FnRecords.j2 kj13 t353 t354 bt355.2.2.2.2.1 bt355.2.2.2.2.2 true bt355.1 bt355.2.1 bt355.2.2.1 bt355.2.2.2.1) else (if bt355.2.2.2.2.1 = bt362.2.2.2.2.1 then (laws_FnRecords.j2 kj13 t353 t354 bt355.2.2.2.2.1 bt355.2.2.2.2.2 (!(bt355.1 == bt362.1) || (!(bt355.2.1 == bt362.2.1) || (!(bt355.2.2.1 == bt362.2.2.1) || (!(bt355.2.2.2.1.toList == bt362.2.2.2.1.toList))))) bt355.1 bt355.2.1 bt355.2.2.1 bt355.2.2.2.1) else (laws_FnRecords.j2 kj13 t353 t354 bt355.2.2.2.2.1 bt355.2.2.2.2.2 true bt355.1 bt355.2.1 bt355.2.2.1 bt355.2.2.2.1))) else (laws_FnRecords.j2 kj13 t353 t354 bt355.2.2.2.2.1 bt355.2.2.2.2.2 true bt355.1 bt355.2.1 bt355.2.2.1 bt355.2.2.2.1))) else (laws_FnRecords.j2 kj13 t353 t354 bt355.2.2.2.2.1 bt355.2.2.2.2.2 true bt355.1 bt355.2.1 bt355.2.2.1 bt355.2.2.2.1))) else (laws_FnRecords.j2 kj13 t353 t354 bt355.2.2.2.2.1 bt355.2.2.2.2.2 true bt355.1 bt355.2.1 bt355.2.2.1 bt355.2.2.2.1))))) = some r := H
       have A73 := Aside0.mk A730
       clear A730
       replace H := Option.bind_eq_some_iff.mp H
       obtain ⟨⟨t355, t356, t357, t358, t359, t360⟩, A740, H⟩ := H
       replace H : ((spec_ReadRecord.f kj13 t353 t354).bind fun bt362 => (if (t339 != t344) = true then (laws_FnRecords.j2 kj13 t353 t354 t359 t360 true t355 t356 t357 t358) else (if t338 = t343 then ((laws_sameRecords.f kj13 t337 t342).bind fun t369 => (if t369 = true then (if (t350 != t352) = true then (laws_FnRecords.j2 kj13 t353 t354 t359 t360 true t355 t356 t357 t358) else (if t349.toList = t351.toList then (if (t360 != bt362.2.2.2.2.2) = true then (laws_FnRecords.j2 kj13 t353 t354 t359 t360 true t355 t356 t357 t358) else (if t359 = bt362.2.2.2.2.1 then (laws_FnRecords.j2 kj13 t353 t354 t359 t360 (!(t355 == bt362.1) || (!(t356 == bt362.2.1) || (!(t357 == bt362.2.2.1) || (!(t358.toList == bt362.2.2.2.1.toList))))) t355 t356 t357 t358) else (laws_FnRecords.j2 kj13 t353 t354 t359 t360 true t355 t356 t357 t358))) else (laws_FnRecords.j2 kj13 t353 t354 t359 t360 true t355 t356 t357 t358))) else (laws_FnRecords.j2 kj13 t353 t354 t359 t360 true t355 t356 t357 t358))) else (laws_FnRecords.j2 kj13 t353 t354 t359 t360 true t355 t356 t357 t358)))) = some r := H
       have A74 := Aside0.mk A740
       clear A740
       replace H := Option.bind_eq_some_iff.mp H
       obtain ⟨⟨t362, t363, t364, t365, t366, t367⟩, A750, H⟩ := H
       replace H : (if (t339 != t344) = true then (laws_FnRecords.j2 kj13 t353 t354 t359 t360 true t355 t356 t357 t358) else (if t338 = t343 then ((laws_sameRecords.f kj13 t337 t342).bind fun t369 => (if t369 = true then (if (t350 != t352) = true then (laws_FnRecords.j2 kj13 t353 t354 t359 t360 true t355 t356 t357 t358) else (if t349.toList = t351.toList then (if (t360 != t367) = true then (laws_FnRecords.j2 kj13 t353 t354 t359 t360 true t355 t356 t357 t358) else (if t359 = t366 then (laws_FnRecords.j2 kj13 t353 t354 t359 t360 (!(t355 == t362) || (!(t356 == t363) || (!(t357 == t364) || (!(t358.toList == t365.toList))))) t355 t356 t357 t358) else (laws_FnRecords.j2 kj13 t353 t354 t359 t360 true t355 t356 t357 t358))) else (laws_FnRecords.j2 kj13 t353 t354 t359 t360 true t355 t356 t357 t358))) else (laws_FnRecords.j2 kj13 t353 t354 t359 t360 true t355 t356 t357 t358))) else (laws_FnRecords.j2 kj13 t353 t354 t359 t360 true t355 t356 t357 t358))) = some r := H
       have A75 := Aside0.mk A750
       clear A750
       have HC76 := Aside0.mk H
       clear H
       go_upto_region 23 with (first | ((with_reducible refine gate_callee (f := 43) rfl ?_); refine goesL_ (some 130) rfl rfl Try.func43 (by kernel_rfl) rfl #[.slice A1 l1.length c1] rfl Mt ?_; (with_reducible refine (spec_DrawReadSegment.calls kj13 _ _ l1 t336 _ ?side1 ?side2 A67.out).mono ?_); (case side1 => repeat (first | exact (Kd.C_below HR1.out HB.out) | (with_reducible refine Kd.C_alloc ?_ _) | (with_reducible refine Kd.C_drewN ?_ _) | (with_reducible refine Kd.C_drew ?_))); (case side2 => exact HC1.out); rintro e w77 ⟨rfl, hb⟩; refine ⟨_, rfl, ?_⟩; have n0_ := Aside0.mk (below_step Bl hb); clear HB; have HB := n0_; clear n0_; (try clear hb); (try clear hb2); (try clear hk); (try clear hi)) | ((with_reducible refine gate_callee (f := 25) rfl ?_); refine goesL_ (some 133) rfl rfl Try.func25 (by kernel_rfl) rfl #[.string t336] rfl Mt ?_; (with_reducible refine (impl_ReadSegment.calls kj13 t336 t337 t338 t339 _ A68.out).mono ?_); rintro e w78 ⟨v340, rfl, ho0, hb⟩; refine ⟨_, rfl, ?_⟩; have n0_ := Aside0.mk (Kd.R_lower ho0 (below_size Bl)); have n1_ := Aside0.mk (below_step Bl hb); clear HB; have HO341 := n0_; have HB := n1_; clear n0_ n1_; (try clear hb); (try clear hb2); (try clear hk); (try clear hi); (try clear ho0)) | ((with_reducible refine gate_callee (f := 24) rfl ?_); refine goesL_ (some 139) rfl rfl Try.func24 (by kernel_rfl) rfl #[.string t336] rfl Mt ?_; (with_reducible refine (spec_ReadSegment.calls kj13 t336 t342 t343 t344 _ A69.out).mono ?_); rintro e w79 ⟨v345, rfl, ho0, hb⟩; refine ⟨_, rfl, ?_⟩; have n0_ := Aside0.mk (Kd.R_elder' (by (with_reducible repeat (first | apply Kd.R_alloc | apply Kd.R_drewN | apply Kd.R_drew)); exact HO341.out) (Kd.R_base ho0) hb); have n1_ := Aside0.mk (Kd.R_lower (Kd.R_new' ho0 (Kd.R_lt (by (with_reducible repeat (first | apply Kd.R_alloc | apply Kd.R_drewN | apply Kd.R_drew)); exact HO341.out))) (below_size Bl)); have n2_ := Aside0.mk (below_step Bl hb); clear HO341; clear HB; have HO341 := n0_; have HO346 := n1_; have HB := n2_; clear n0_ n1_ n2_; (try clear hb); (try clear hb2); (try clear hk); (try clear hi); (try clear ho0)) | ((with_reducible refine gate_callee (f := 44) rfl ?_); refine goesL_ (some 145) rfl rfl Try.func44 (by kernel_rfl) rfl #[.slice A1 l1.length c1] rfl Mt ?_; (with_reducible refine (spec_DrawTornSegment.calls kj13 _ _ l1 t347 t348 _ ?side1 ?side2 A70.out).mono ?_); (case side1 => repeat (first | exact (Kd.C_below HR1.out HB.out) | (with_reducible refine Kd.C_alloc ?_ _) | (with_reducible refine Kd.C_drewN ?_ _) | (with_reducible refine Kd.C_drew ?_))); (case side2 => exact HC1.out); rintro e w80 ⟨rfl, hb⟩; refine ⟨_, rfl, ?_⟩; have n0_ := Aside0.mk (Kd.R_below (by (with_reducible repeat (first | apply Kd.R_alloc | apply Kd.R_drewN | apply Kd.R_drew)); exact HO341.out) hb); have n1_ := Aside0.mk (Kd.R_below (by (with_reducible repeat (first | apply Kd.R_alloc | apply Kd.R_drewN | apply Kd.R_drew)); exact HO346.out) hb); have n2_ := Aside0.mk (below_step Bl hb); clear HO341; clear HO346; clear HB; have HO341 := n0_; have HO346 := n1_; have HB := n2_; clear n0_ n1_ n2_; (try clear hb); (try clear hb2); (try clear hk); (try clear hi)) | ((with_reducible refine gate_callee (f := 18) rfl ?_); refine goesL_ (some 151) rfl rfl Try.func18 (by kernel_rfl) rfl #[.string t347, .int .i64 t348] rfl Mt ?_; (with_reducible refine (impl_TornSegment.calls kj13 t347 t348 t349 t350 _ A71.out).mono ?_); rintro e w81 ⟨rfl, hb⟩; refine ⟨_, rfl, ?_⟩; have n0_ := Aside0.mk (Kd.R_below (by (with_reducible repeat (first | apply Kd.R_alloc | apply Kd.R_drewN | apply Kd.R_drew)); exact HO341.out) hb); have n1_ := Aside0.mk (Kd.R_below (by (with_reducible repeat (first | apply Kd.R_alloc | apply Kd.R_drewN | apply Kd.R_drew)); exact HO346.out) hb); have n2_ := Aside0.mk (below_step Bl hb); clear HO341; clear HO346; clear HB; have HO341 := n0_; have HO346 := n1_; have HB := n2_; clear n0_ n1_ n2_; (try clear hb); (try clear hb2); (try clear hk); (try clear hi)) | ((with_reducible refine gate_callee (f := 17) rfl ?_); refine goesL_ (some 157) rfl rfl Try.func17 (by kernel_rfl) rfl #[.string t347, .int .i64 t348] rfl Mt ?_; (with_reducible refine (spec_TornSegment.calls kj13 t347 t348 t351 t352 _ A72.out).mono ?_); rintro e w82 ⟨rfl, hb⟩; refine ⟨_, rfl, ?_⟩; have n0_ := Aside0.mk (Kd.R_below (by (with_reducible repeat (first | apply Kd.R_alloc | apply Kd.R_drewN | apply Kd.R_drew)); exact HO341.out) hb); have n1_ := Aside0.mk (Kd.R_below (by (with_reducible repeat (first | apply Kd.R_alloc | apply Kd.R_drewN | apply Kd.R_drew)); exact HO346.out) hb); have n2_ := Aside0.mk (below_step Bl hb); clear HO341; clear HO346; clear HB; have HO341 := n0_; have HO346 := n1_; have HB := n2_; clear n0_ n1_ n2_; (try clear hb); (try clear hb2); (try clear hk); (try clear hi)) | ((with_reducible refine gate_callee (f := 45) rfl ?_); refine goesL_ (some 162) rfl rfl Try.func45 (by kernel_rfl) rfl #[.slice A1 l1.length c1] rfl Mt ?_; (with_reducible refine (spec_DrawReadRecord.calls kj13 _ _ l1 t353 t354 _ ?side1 ?side2 A73.out).mono ?_); (case side1 => repeat (first | exact (Kd.C_below HR1.out HB.out) | (with_reducible refine Kd.C_alloc ?_ _) | (with_reducible refine Kd.C_drewN ?_ _) | (with_reducible refine Kd.C_drew ?_))); (case side2 => exact HC1.out); rintro e w83 ⟨rfl, hb⟩; refine ⟨_, rfl, ?_⟩; have n0_ := Aside0.mk (Kd.R_below (by (with_reducible repeat (first | apply Kd.R_alloc | apply Kd.R_drewN | apply Kd.R_drew)); exact HO341.out) hb); have n1_ := Aside0.mk (Kd.R_below (by (with_reducible repeat (first | apply Kd.R_alloc | apply Kd.R_drewN | apply Kd.R_drew)); exact HO346.out) hb); have n2_ := Aside0.mk (below_step Bl hb); clear HO341; clear HO346; clear HB; have HO341 := n0_; have HO346 := n1_; have HB := n2_; clear n0_ n1_ n2_; (try clear hb); (try clear hb2); (try clear hk); (try clear hi)) | ((with_reducible refine gate_callee (f := 15) rfl ?_); refine goesL_ (some 168) rfl rfl Try.func15 (by kernel_rfl) rfl #[.string t353, .int .i64 t354] rfl Mt ?_; (with_reducible refine (impl_ReadRecord.calls kj13 t353 t354 t355 t356 t357 t358 t359 t360 _ A74.out).mono ?_); rintro e w84 ⟨rfl, hb⟩; refine ⟨_, rfl, ?_⟩; have n0_ := Aside0.mk (Kd.R_below (by (with_reducible repeat (first | apply Kd.R_alloc | apply Kd.R_drewN | apply Kd.R_drew)); exact HO341.out) hb); have n1_ := Aside0.mk (Kd.R_below (by (with_reducible repeat (first | apply Kd.R_alloc | apply Kd.R_drewN | apply Kd.R_drew)); exact HO346.out) hb); have n2_ := Aside0.mk (below_step Bl hb); clear HO341; clear HO346; clear HB; have HO341 := n0_; have HO346 := n1_; have HB := n2_; clear n0_ n1_ n2_; (try clear hb); (try clear hb2); (try clear hk); (try clear hi)) | ((with_reducible refine gate_dst (N := 33) rfl ?_); (try (refine gate_guard (by rfl) ?_; dsimp only)); refine box_event ?hg (N := 33) ?hd (cs := #[.int .i64 0, .int .i64 0, .int .i64 0, .string (⟨#[]⟩ : ByteArray)]) (t := 27) ?hr ?_; (case hd => rfl); (case hg => rfl); (case hr => first | (go_simp; done) | (go_simp; rfl)); intro gb361 hg w85 hbox hb; have n0_ := Aside0.mk (Kd.R_below (Kd.R_elderB (by (with_reducible repeat (first | apply Kd.R_alloc | apply Kd.R_drewN | apply Kd.R_drew)); exact HO341.out) gb361 (Nat.le_of_eq hg.symm)) hb); have n1_ := Aside0.mk (Kd.R_below (Kd.R_elderB (by (with_reducible repeat (first | apply Kd.R_alloc | apply Kd.R_drewN | apply Kd.R_drew)); exact HO346.out) gb361 (Nat.le_of_eq hg.symm)) hb); have n2_ := Aside0.mk (below_step Bl hb); have n3_ := Aside0.mk (hbox); have n4_ := Aside0.mk ((by rw [hg]; exact (below_size Bl) : w.heap.size ≤ gb361)); have n5_ := Aside0.mk ((by rw [hg]; exact (below_size Bl) : w.heap.size ≤ gb361)); clear HO341; clear HO346; clear HB; have HO341 := n0_; have HO346 := n1_; have HB := n2_; have BK361 := n3_; have GW361 := n4_; have GE361 := n5_; clear n0_ n1_ n2_ n3_ n4_ n5_; clear hb hbox hg; have hcz86_0 : w85.cell? ⟨gb361, 0, none⟩ = some (.int .i64 0) := (blk_cell BK361.out 0).trans rfl; have hcz86_1 : w85.cell? ⟨gb361, 1, none⟩ = some (.int .i64 0) := (blk_cell BK361.out 1).trans rfl; have hcz86_2 : w85.cell? ⟨gb361, 2, none⟩ = some (.int .i64 0) := (blk_cell BK361.out 2).trans rfl; have hcz86_3 : w85.cell? ⟨gb361, 3, none⟩ = some (.string (⟨#[]⟩ : ByteArray)) := (blk_cell BK361.out 3).trans rfl; have hfz86_0 := blk_frozen BK361.out 0; have hfz86_1 := blk_frozen BK361.out 1; have hfz86_2 := blk_frozen BK361.out 2; have hfz86_3 := blk_frozen BK361.out 3) | ((with_reducible refine gate_callee (f := 14) rfl ?_); refine goesL_ (some 175) rfl rfl Try.func14 (by kernel_rfl) rfl #[.string t353, .int .i64 t354] rfl Mt ?_; (with_reducible refine (spec_ReadRecord.calls kj13 t353 t354 t362 t363 t364 t365 t366 t367 _ A75.out).mono ?_); rintro e w87 ⟨rfl, hb⟩; refine ⟨_, rfl, ?_⟩; have n0_ := Aside0.mk (Kd.R_below (by (with_reducible repeat (first | apply Kd.R_alloc | apply Kd.R_drewN | apply Kd.R_drew)); exact (Kd.R_mono (Kd.R_far (p := ⟨gb361, 3, none⟩) (Kd.R_far (p := ⟨gb361, 2, none⟩) (Kd.R_far (p := ⟨gb361, 1, none⟩) (Kd.R_far (p := ⟨gb361, 0, none⟩) (Kd.R_mono HO341.out (fun k_ hk => (⟨hk, hk.2⟩ : _ ∧ k_ ≠ gb361))) (fun _ hk => hk.2) (.int .i64 t355)) (fun _ hk => hk.2) (.int .i64 t356)) (fun _ hk => hk.2) (.int .i64 t357)) (fun _ hk => hk.2) (.string t358)) (fun _ h_ => h_.1))) hb); have n1_ := Aside0.mk (Kd.R_below (by (with_reducible repeat (first | apply Kd.R_alloc | apply Kd.R_drewN | apply Kd.R_drew)); exact (Kd.R_mono (Kd.R_far (p := ⟨gb361, 3, none⟩) (Kd.R_far (p := ⟨gb361, 2, none⟩) (Kd.R_far (p := ⟨gb361, 1, none⟩) (Kd.R_far (p := ⟨gb361, 0, none⟩) (Kd.R_mono HO346.out (fun k_ hk => (⟨hk, hk.2⟩ : _ ∧ k_ ≠ gb361))) (fun _ hk => hk.2) (.int .i64 t355)) (fun _ hk => hk.2) (.int .i64 t356)) (fun _ hk => hk.2) (.int .i64 t357)) (fun _ hk => hk.2) (.string t358)) (fun _ h_ => h_.1))) hb); have n2_ := Aside0.mk (blk_below (g := gb361) (o := .cells #[.int .i64 t355, .int .i64 t356, .int .i64 t357, .string t358] 27 (0, 0)) (by (with_reducible repeat (first | refine blk_drewN ?_ _ | refine blk_drew ?_ | refine blk_alloc ?_ _)); refine blk_put (cs := #[.int .i64 t355, .int .i64 t356, .int .i64 t357, .string (⟨#[]⟩ : ByteArray)]) ?_ 3 _ rfl; (with_reducible repeat (first | refine blk_drewN ?_ _ | refine blk_drew ?_ | refine blk_alloc ?_ _)); refine blk_put (cs := #[.int .i64 t355, .int .i64 t356, .int .i64 0, .string (⟨#[]⟩ : ByteArray)]) ?_ 2 _ rfl; (with_reducible repeat (first | refine blk_drewN ?_ _ | refine blk_drew ?_ | refine blk_alloc ?_ _)); refine blk_put (cs := #[.int .i64 t355, .int .i64 0, .int .i64 0, .string (⟨#[]⟩ : ByteArray)]) ?_ 1 _ rfl; (with_reducible repeat (first | refine blk_drewN ?_ _ | refine blk_drew ?_ | refine blk_alloc ?_ _)); refine blk_put (cs := #[.int .i64 0, .int .i64 0, .int .i64 0, .string (⟨#[]⟩ : ByteArray)]) ?_ 0 _ rfl; (with_reducible repeat (first | refine blk_drewN ?_ _ | refine blk_drew ?_ | refine blk_alloc ?_ _)); exact BK361.out) hb); have n3_ := Aside0.mk (below_step (by repeat (first | (with_reducible first | exact HB.out | apply below_alloc | apply pw_below_drewN | apply below_drew1 | refine below_set ?_ GE361.out) | exact HB.out)) hb); clear HO341; clear HO346; clear BK361; clear HB; have HO341 := n0_; have HO346 := n1_; have BK361 := n2_; have HB := n3_; clear n0_ n1_ n2_ n3_; (try clear hb); (try clear hb2); (try clear hk); (try clear hi)) | ((with_reducible refine gate_dst (N := 36) rfl ?_); (try (refine gate_guard (by rfl) ?_; dsimp only)); refine box_event ?hg (N := 36) ?hd (cs := #[.int .i64 0, .int .i64 0, .int .i64 0, .string (⟨#[]⟩ : ByteArray)]) (t := 27) ?hr ?_; (case hd => rfl); (case hg => rfl); (case hr => first | (go_simp; done) | (go_simp; rfl)); intro gb368 hg w88 hbox hb; have n0_ := Aside0.mk (Kd.R_below (Kd.R_elderB (by (with_reducible repeat (first | apply Kd.R_alloc | apply Kd.R_drewN | apply Kd.R_drew)); exact HO341.out) gb368 (Nat.le_of_eq hg.symm)) hb); have n1_ := Aside0.mk (Kd.R_below (Kd.R_elderB (by (with_reducible repeat (first | apply Kd.R_alloc | apply Kd.R_drewN | apply Kd.R_drew)); exact HO346.out) gb368 (Nat.le_of_eq hg.symm)) hb); have n2_ := Aside0.mk (blk_below (g := gb361) (o := .cells #[.int .i64 t355, .int .i64 t356, .int .i64 t357, .string t358] 27 (0, 0)) (by (with_reducible repeat (first | refine blk_drewN ?_ _ | refine blk_drew ?_ | refine blk_alloc ?_ _)); exact BK361.out) hb); have n3_ := Aside0.mk (below_step (by repeat (first | (with_reducible first | exact HB.out | apply below_alloc | apply pw_below_drewN | apply below_drew1 | refine below_set ?_ GE361.out) | exact HB.out)) hb); have n4_ := Aside0.mk (hbox); have n5_ := Aside0.mk ((by rw [hg]; exact (below_size (by repeat (first | (with_reducible first | exact HB.out | apply below_alloc | apply pw_below_drewN | apply below_drew1 | refine below_set ?_ GE361.out) | exact HB.out))) : w.heap.size ≤ gb368)); have n6_ := Aside0.mk ((by rw [hg]; exact (below_size (by repeat (first | (with_reducible first | exact HB.out | apply below_alloc | apply pw_below_drewN | apply below_drew1 | refine below_set ?_ GE361.out) | exact HB.out))) : w.heap.size ≤ gb368)); have n7_ := Aside0.mk ((by rw [hg]; exact Nat.ne_of_lt (blk_lt (g := gb361) (o := .cells #[.int .i64 t355, .int .i64 t356, .int .i64 t357, .string t358] 27 (0, 0)) (by (with_reducible repeat (first | refine blk_drewN ?_ _ | refine blk_drew ?_ | refine blk_alloc ?_ _)); exact BK361.out)) : gb361 ≠ gb368)); have n8_ := Aside0.mk ((by rw [hg]; exact Nat.ne_of_gt (blk_lt (g := gb361) (o := .cells #[.int .i64 t355, .int .i64 t356, .int .i64 t357, .string t358] 27 (0, 0)) (by (with_reducible repeat (first | refine blk_drewN ?_ _ | refine blk_drew ?_ | refine blk_alloc ?_ _)); exact BK361.out)) : gb368 ≠ gb361)); clear HO341; clear HO346; clear BK361; clear HB; have HO341 := n0_; have HO346 := n1_; have BK361 := n2_; have HB := n3_; have BK368 := n4_; have GW368 := n5_; have GE368 := n6_; have NB361_368 := n7_; have NB368_361 := n8_; clear n0_ n1_ n2_ n3_ n4_ n5_ n6_ n7_ n8_; clear hb hbox hg; have hnb89 := NB368_361.out; have hnc89 := NB361_368.out; have hcz90_0 : w88.cell? ⟨gb368, 0, none⟩ = some (.int .i64 0) := (blk_cell BK368.out 0).trans rfl; have hcz90_1 : w88.cell? ⟨gb368, 1, none⟩ = some (.int .i64 0) := (blk_cell BK368.out 1).trans rfl; have hcz90_2 : w88.cell? ⟨gb368, 2, none⟩ = some (.int .i64 0) := (blk_cell BK368.out 2).trans rfl; have hcz90_3 : w88.cell? ⟨gb368, 3, none⟩ = some (.string (⟨#[]⟩ : ByteArray)) := (blk_cell BK368.out 3).trans rfl; have hfz90_0 := blk_frozen BK368.out 0; have hfz90_1 := blk_frozen BK368.out 1; have hfz90_2 := blk_frozen BK368.out 2; have hfz90_3 := blk_frozen BK368.out 3))
       (try simp only [Act.put, List.setIfInBounds_toArray, List.set_cons_zero, List.set_cons_succ])
       go_cut [217] (fun v217 wc => ∃ (kq : Nat) (x217_75 : Bool), v217 = .bool x217_75 ∧ Aside0 (laws_FnRecords.j2 kq t353 t354 t359 t360 x217_75 t355 t356 t357 t358 = some r) ∧ Aside0 (kq ≤ kj13) ∧ Aside0 (wc.heap[gb361]? = some (.cells #[.int .i64 t355, .int .i64 t356, .int .i64 t357, .string t358] 27 (0, 0))) ∧ Aside0 (wc.heap[gb368]? = some (.cells #[.int .i64 t362, .int .i64 t363, .int .i64 t364, .string t365] 27 (0, 0))) ∧ Aside0 (Below w.heap.size w wc))
       case first => as_aux_lemma =>
        have H := HC76.out
        clear HC76
        by_cases c91 : (t339 != t344) = true
        ·rw [if_pos c91] at H
         have c91b0 : (t339 != t344) = true := c91
         (try (have c91b1 : decide (t339 = t344) = false := by simpa using c91))
         (try (have c91b2 : (t339 == t344) = false := by simpa using c91))
         (try (have c91b3 : ¬ (t339 = t344) := by simpa using c91))
         clear c91
         (first | rw [c91b0] | (simp only [i64_w, i32_w]; rw [c91b0]) | skip)
         have H' := Aside0.mk H
         clear H
         go_wp2
         go_meet
         case rel => exact ⟨_, (true), (by first | rfl | (simp; done) | (simp [*]; done)), H', ⟨by have := HJ6.out; have := HJ13.out; first | omega | exact Nat.le_refl _⟩, ⟨by (with_reducible repeat (first | refine blk_drewN ?_ _ | refine blk_drew ?_ | refine blk_alloc ?_ _)); refine blk_far ?_ NB361_368.out _; (with_reducible repeat (first | refine blk_drewN ?_ _ | refine blk_drew ?_ | refine blk_alloc ?_ _)); refine blk_far ?_ NB361_368.out _; (with_reducible repeat (first | refine blk_drewN ?_ _ | refine blk_drew ?_ | refine blk_alloc ?_ _)); refine blk_far ?_ NB361_368.out _; (with_reducible repeat (first | refine blk_drewN ?_ _ | refine blk_drew ?_ | refine blk_alloc ?_ _)); refine blk_far ?_ NB361_368.out _; (with_reducible repeat (first | refine blk_drewN ?_ _ | refine blk_drew ?_ | refine blk_alloc ?_ _)); exact BK361.out⟩, ⟨by (with_reducible repeat (first | refine blk_drewN ?_ _ | refine blk_drew ?_ | refine blk_alloc ?_ _)); refine blk_put (cs := #[.int .i64 t362, .int .i64 t363, .int .i64 t364, .string (⟨#[]⟩ : ByteArray)]) ?_ 3 _ rfl; (with_reducible repeat (first | refine blk_drewN ?_ _ | refine blk_drew ?_ | refine blk_alloc ?_ _)); refine blk_put (cs := #[.int .i64 t362, .int .i64 t363, .int .i64 0, .string (⟨#[]⟩ : ByteArray)]) ?_ 2 _ rfl; (with_reducible repeat (first | refine blk_drewN ?_ _ | refine blk_drew ?_ | refine blk_alloc ?_ _)); refine blk_put (cs := #[.int .i64 t362, .int .i64 0, .int .i64 0, .string (⟨#[]⟩ : ByteArray)]) ?_ 1 _ rfl; (with_reducible repeat (first | refine blk_drewN ?_ _ | refine blk_drew ?_ | refine blk_alloc ?_ _)); refine blk_put (cs := #[.int .i64 0, .int .i64 0, .int .i64 0, .string (⟨#[]⟩ : ByteArray)]) ?_ 0 _ rfl; (with_reducible repeat (first | refine blk_drewN ?_ _ | refine blk_drew ?_ | refine blk_alloc ?_ _)); exact BK368.out⟩, ⟨by repeat (first | (with_reducible first | exact HB.out | apply below_alloc | apply pw_below_drewN | apply below_drew1 | refine below_set ?_ GE361.out | refine below_set ?_ GE368.out) | exact HB.out)⟩⟩
        ·rw [if_neg c91] at H
         have c91b0 : (t339 != t344) = false := by simpa using c91
         (try (have c91b1 : decide (t339 = t344) = true := by simpa using c91))
         (try (have c91b2 : (t339 == t344) = true := by simpa using c91))
         clear c91
         (first | rw [c91b0] | (simp only [i64_w, i32_w]; rw [c91b0]) | skip)
         by_cases c92 : t338 = t343
         ·rw [if_pos c92] at H
          have c92b0 : (t338 == t343) = true := beq_iff_eq.mpr c92
          have c92b1 : (t338 != t343) = false := bne_eq_false_iff_eq.mpr c92
          clear c92
          replace H := Option.bind_eq_some_iff.mp H
          obtain ⟨t369, A930, H⟩ := H
          replace H : (if t369 = true then (if (t350 != t352) = true then (laws_FnRecords.j2 kj13 t353 t354 t359 t360 true t355 t356 t357 t358) else (if t349.toList = t351.toList then (if (t360 != t367) = true then (laws_FnRecords.j2 kj13 t353 t354 t359 t360 true t355 t356 t357 t358) else (if t359 = t366 then (laws_FnRecords.j2 kj13 t353 t354 t359 t360 (!(t355 == t362) || (!(t356 == t363) || (!(t357 == t364) || (!(t358.toList == t365.toList))))) t355 t356 t357 t358) else (laws_FnRecords.j2 kj13 t353 t354 t359 t360 true t355 t356 t357 t358))) else (laws_FnRecords.j2 kj13 t353 t354 t359 t360 true t355 t356 t357 t358))) else (laws_FnRecords.j2 kj13 t353 t354 t359 t360 true t355 t356 t357 t358)) = some r := H
          have A93 := Aside0.mk A930
          clear A930
          by_cases c94 : t369 = true
          ·subst c94
           have H1 : (if (t350 != t352) = true then (laws_FnRecords.j2 kj13 t353 t354 t359 t360 true t355 t356 t357 t358) else (if t349.toList = t351.toList then (if (t360 != t367) = true then (laws_FnRecords.j2 kj13 t353 t354 t359 t360 true t355 t356 t357 t358) else (if t359 = t366 then (laws_FnRecords.j2 kj13 t353 t354 t359 t360 (!(t355 == t362) || (!(t356 == t363) || (!(t357 == t364) || (!(t358.toList == t365.toList))))) t355 t356 t357 t358) else (laws_FnRecords.j2 kj13 t353 t354 t359 t360 true t355 t356 t357 t358))) else (laws_FnRecords.j2 kj13 t353 t354 t359 t360 true t355 t356 t357 t358))) = some r := by rw [if_pos rfl] at H; exact H
           clear H
           have H := H1
           clear H1
           by_cases c95 : (t350 != t352) = true
           ·rw [if_pos c95] at H
            have c95b0 : (t350 != t352) = true := c95
            (try (have c95b1 : decide (t350 = t352) = false := by simpa using c95))
            (try (have c95b2 : (t350 == t352) = false := by simpa using c95))
            (try (have c95b3 : ¬ (t350 = t352) := by simpa using c95))
            clear c95
            have H' := Aside0.mk H
            clear H
            obtain ⟨Ao96, co96, eo96⟩ := Kd.R_slice HO341.out
            subst eo96
            obtain ⟨Ao97, co97, eo97⟩ := Kd.R_slice HO346.out
            subst eo97
            go_wp2_with (first | (go_at_call 42; (with_reducible refine (laws_sameRecords.calls kj13 _ _ t337 _ _ t342 true _ ?side1 ?side2 ?side3 ?side4 A93.out).mono ?_); (case side1 => refine (Kd.R_reads' (e := 27) (base := w.heap.size) (ok := fun k_ => (((True ∧ some k_ ≠ (.slice Ao97 t342.length co97 : Value).ownBlock) ∧ k_ ≠ gb361) ∧ k_ ≠ gb368)) (n := t337.length) (c := co96) ?_).2.2; exact (by (with_reducible repeat (first | apply Kd.R_alloc | apply Kd.R_drewN | apply Kd.R_drew)); exact (Kd.R_mono (Kd.R_far (p := ⟨gb368, 3, none⟩) (Kd.R_far (p := ⟨gb368, 2, none⟩) (Kd.R_far (p := ⟨gb368, 1, none⟩) (Kd.R_far (p := ⟨gb368, 0, none⟩) (Kd.R_mono HO341.out (fun k_ hk => (⟨hk, hk.2⟩ : _ ∧ k_ ≠ gb368))) (fun _ hk => hk.2) (.int .i64 t362)) (fun _ hk => hk.2) (.int .i64 t363)) (fun _ hk => hk.2) (.int .i64 t364)) (fun _ hk => hk.2) (.string t365)) (fun _ h_ => h_.1)))); (case side2 => exact (Kd.R_reads' HO341.out).2.1); (case side3 => refine (Kd.R_reads' (e := 27) (base := w.heap.size) (ok := fun k_ => (((True ∧ some k_ ≠ (.slice Ao96 t337.length co96 : Value).ownBlock) ∧ k_ ≠ gb361) ∧ k_ ≠ gb368)) (n := t342.length) (c := co97) ?_).2.2; exact (by (with_reducible repeat (first | apply Kd.R_alloc | apply Kd.R_drewN | apply Kd.R_drew)); exact (Kd.R_mono (Kd.R_far (p := ⟨gb368, 3, none⟩) (Kd.R_far (p := ⟨gb368, 2, none⟩) (Kd.R_far (p := ⟨gb368, 1, none⟩) (Kd.R_far (p := ⟨gb368, 0, none⟩) (Kd.R_mono HO346.out (fun k_ hk => (⟨hk, hk.2⟩ : _ ∧ k_ ≠ gb368))) (fun _ hk => hk.2) (.int .i64 t362)) (fun _ hk => hk.2) (.int .i64 t363)) (fun _ hk => hk.2) (.int .i64 t364)) (fun _ hk => hk.2) (.string t365)) (fun _ h_ => h_.1)))); (case side4 => exact (Kd.R_reads' HO346.out).2.1); rintro e w' ⟨rfl, ⟨nd, rfl⟩⟩))
            go_meet
            case rel => exact ⟨_, (true), (by first | rfl | (simp; done) | (simp [*]; done)), H', ⟨by have := HJ6.out; have := HJ13.out; first | omega | exact Nat.le_refl _⟩, ⟨by (with_reducible repeat (first | refine blk_drewN ?_ _ | refine blk_drew ?_ | refine blk_alloc ?_ _)); refine blk_far ?_ NB361_368.out _; (with_reducible repeat (first | refine blk_drewN ?_ _ | refine blk_drew ?_ | refine blk_alloc ?_ _)); refine blk_far ?_ NB361_368.out _; (with_reducible repeat (first | refine blk_drewN ?_ _ | refine blk_drew ?_ | refine blk_alloc ?_ _)); refine blk_far ?_ NB361_368.out _; (with_reducible repeat (first | refine blk_drewN ?_ _ | refine blk_drew ?_ | refine blk_alloc ?_ _)); refine blk_far ?_ NB361_368.out _; (with_reducible repeat (first | refine blk_drewN ?_ _ | refine blk_drew ?_ | refine blk_alloc ?_ _)); exact BK361.out⟩, ⟨by (with_reducible repeat (first | refine blk_drewN ?_ _ | refine blk_drew ?_ | refine blk_alloc ?_ _)); refine blk_put (cs := #[.int .i64 t362, .int .i64 t363, .int .i64 t364, .string (⟨#[]⟩ : ByteArray)]) ?_ 3 _ rfl; (with_reducible repeat (first | refine blk_drewN ?_ _ | refine blk_drew ?_ | refine blk_alloc ?_ _)); refine blk_put (cs := #[.int .i64 t362, .int .i64 t363, .int .i64 0, .string (⟨#[]⟩ : ByteArray)]) ?_ 2 _ rfl; (with_reducible repeat (first | refine blk_drewN ?_ _ | refine blk_drew ?_ | refine blk_alloc ?_ _)); refine blk_put (cs := #[.int .i64 t362, .int .i64 0, .int .i64 0, .string (⟨#[]⟩ : ByteArray)]) ?_ 1 _ rfl; (with_reducible repeat (first | refine blk_drewN ?_ _ | refine blk_drew ?_ | refine blk_alloc ?_ _)); refine blk_put (cs := #[.int .i64 0, .int .i64 0, .int .i64 0, .string (⟨#[]⟩ : ByteArray)]) ?_ 0 _ rfl; (with_reducible repeat (first | refine blk_drewN ?_ _ | refine blk_drew ?_ | refine blk_alloc ?_ _)); exact BK368.out⟩, ⟨by repeat (first | (with_reducible first | exact HB.out | apply below_alloc | apply pw_below_drewN | apply below_drew1 | refine below_set ?_ GE361.out | refine below_set ?_ GE368.out) | exact HB.out)⟩⟩
           ·rw [if_neg c95] at H
            have c95b0 : (t350 != t352) = false := by simpa using c95
            (try (have c95b1 : decide (t350 = t352) = true := by simpa using c95))
            (try (have c95b2 : (t350 == t352) = true := by simpa using c95))
            clear c95
            by_cases c98 : t349.toList = t351.toList
            ·rw [if_pos c98] at H
             have c98b0 : (t349.toList == t351.toList) = true := beq_iff_eq.mpr c98
             have c98b1 : (t349.toList != t351.toList) = false := bne_eq_false_iff_eq.mpr c98
             clear c98
             by_cases c99 : (t360 != t367) = true
             ·rw [if_pos c99] at H
              have c99b0 : (t360 != t367) = true := c99
              (try (have c99b1 : decide (t360 = t367) = false := by simpa using c99))
              (try (have c99b2 : (t360 == t367) = false := by simpa using c99))
              (try (have c99b3 : ¬ (t360 = t367) := by simpa using c99))
              clear c99
              have H' := Aside0.mk H
              clear H
              obtain ⟨Ao100, co100, eo100⟩ := Kd.R_slice HO341.out
              subst eo100
              obtain ⟨Ao101, co101, eo101⟩ := Kd.R_slice HO346.out
              subst eo101
              go_wp2_with (first | (go_at_call 42; (with_reducible refine (laws_sameRecords.calls kj13 _ _ t337 _ _ t342 true _ ?side1 ?side2 ?side3 ?side4 A93.out).mono ?_); (case side1 => refine (Kd.R_reads' (e := 27) (base := w.heap.size) (ok := fun k_ => (((True ∧ some k_ ≠ (.slice Ao101 t342.length co101 : Value).ownBlock) ∧ k_ ≠ gb361) ∧ k_ ≠ gb368)) (n := t337.length) (c := co100) ?_).2.2; exact (by (with_reducible repeat (first | apply Kd.R_alloc | apply Kd.R_drewN | apply Kd.R_drew)); exact (Kd.R_mono (Kd.R_far (p := ⟨gb368, 3, none⟩) (Kd.R_far (p := ⟨gb368, 2, none⟩) (Kd.R_far (p := ⟨gb368, 1, none⟩) (Kd.R_far (p := ⟨gb368, 0, none⟩) (Kd.R_mono HO341.out (fun k_ hk => (⟨hk, hk.2⟩ : _ ∧ k_ ≠ gb368))) (fun _ hk => hk.2) (.int .i64 t362)) (fun _ hk => hk.2) (.int .i64 t363)) (fun _ hk => hk.2) (.int .i64 t364)) (fun _ hk => hk.2) (.string t365)) (fun _ h_ => h_.1)))); (case side2 => exact (Kd.R_reads' HO341.out).2.1); (case side3 => refine (Kd.R_reads' (e := 27) (base := w.heap.size) (ok := fun k_ => (((True ∧ some k_ ≠ (.slice Ao100 t337.length co100 : Value).ownBlock) ∧ k_ ≠ gb361) ∧ k_ ≠ gb368)) (n := t342.length) (c := co101) ?_).2.2; exact (by (with_reducible repeat (first | apply Kd.R_alloc | apply Kd.R_drewN | apply Kd.R_drew)); exact (Kd.R_mono (Kd.R_far (p := ⟨gb368, 3, none⟩) (Kd.R_far (p := ⟨gb368, 2, none⟩) (Kd.R_far (p := ⟨gb368, 1, none⟩) (Kd.R_far (p := ⟨gb368, 0, none⟩) (Kd.R_mono HO346.out (fun k_ hk => (⟨hk, hk.2⟩ : _ ∧ k_ ≠ gb368))) (fun _ hk => hk.2) (.int .i64 t362)) (fun _ hk => hk.2) (.int .i64 t363)) (fun _ hk => hk.2) (.int .i64 t364)) (fun _ hk => hk.2) (.string t365)) (fun _ h_ => h_.1)))); (case side4 => exact (Kd.R_reads' HO346.out).2.1); rintro e w' ⟨rfl, ⟨nd, rfl⟩⟩))
              go_meet
              case rel => exact ⟨_, (true), (by first | rfl | (simp; done) | (simp [*]; done)), H', ⟨by have := HJ6.out; have := HJ13.out; first | omega | exact Nat.le_refl _⟩, ⟨by (with_reducible repeat (first | refine blk_drewN ?_ _ | refine blk_drew ?_ | refine blk_alloc ?_ _)); refine blk_far ?_ NB361_368.out _; (with_reducible repeat (first | refine blk_drewN ?_ _ | refine blk_drew ?_ | refine blk_alloc ?_ _)); refine blk_far ?_ NB361_368.out _; (with_reducible repeat (first | refine blk_drewN ?_ _ | refine blk_drew ?_ | refine blk_alloc ?_ _)); refine blk_far ?_ NB361_368.out _; (with_reducible repeat (first | refine blk_drewN ?_ _ | refine blk_drew ?_ | refine blk_alloc ?_ _)); refine blk_far ?_ NB361_368.out _; (with_reducible repeat (first | refine blk_drewN ?_ _ | refine blk_drew ?_ | refine blk_alloc ?_ _)); exact BK361.out⟩, ⟨by (with_reducible repeat (first | refine blk_drewN ?_ _ | refine blk_drew ?_ | refine blk_alloc ?_ _)); refine blk_put (cs := #[.int .i64 t362, .int .i64 t363, .int .i64 t364, .string (⟨#[]⟩ : ByteArray)]) ?_ 3 _ rfl; (with_reducible repeat (first | refine blk_drewN ?_ _ | refine blk_drew ?_ | refine blk_alloc ?_ _)); refine blk_put (cs := #[.int .i64 t362, .int .i64 t363, .int .i64 0, .string (⟨#[]⟩ : ByteArray)]) ?_ 2 _ rfl; (with_reducible repeat (first | refine blk_drewN ?_ _ | refine blk_drew ?_ | refine blk_alloc ?_ _)); refine blk_put (cs := #[.int .i64 t362, .int .i64 0, .int .i64 0, .string (⟨#[]⟩ : ByteArray)]) ?_ 1 _ rfl; (with_reducible repeat (first | refine blk_drewN ?_ _ | refine blk_drew ?_ | refine blk_alloc ?_ _)); refine blk_put (cs := #[.int .i64 0, .int .i64 0, .int .i64 0, .string (⟨#[]⟩ : ByteArray)]) ?_ 0 _ rfl; (with_reducible repeat (first | refine blk_drewN ?_ _ | refine blk_drew ?_ | refine blk_alloc ?_ _)); exact BK368.out⟩, ⟨by repeat (first | (with_reducible first | exact HB.out | apply below_alloc | apply pw_below_drewN | apply below_drew1 | refine below_set ?_ GE361.out | refine below_set ?_ GE368.out) | exact HB.out)⟩⟩
             ·rw [if_neg c99] at H
              have c99b0 : (t360 != t367) = false := by simpa using c99
              (try (have c99b1 : decide (t360 = t367) = true := by simpa using c99))
              (try (have c99b2 : (t360 == t367) = true := by simpa using c99))
              clear c99
              by_cases c102 : t359 = t366
              ·rw [if_pos c102] at H
               have c102b0 : (t359 == t366) = true := beq_iff_eq.mpr c102
               have c102b1 : (t359 != t366) = false := bne_eq_false_iff_eq.mpr c102
               clear c102
               have H' := Aside0.mk H
               clear H
               obtain ⟨Ao103, co103, eo103⟩ := Kd.R_slice HO341.out
               subst eo103
               obtain ⟨Ao104, co104, eo104⟩ := Kd.R_slice HO346.out
               subst eo104
               go_wp2_with (first | (go_at_call 42; (with_reducible refine (laws_sameRecords.calls kj13 _ _ t337 _ _ t342 true _ ?side1 ?side2 ?side3 ?side4 A93.out).mono ?_); (case side1 => refine (Kd.R_reads' (e := 27) (base := w.heap.size) (ok := fun k_ => (((True ∧ some k_ ≠ (.slice Ao104 t342.length co104 : Value).ownBlock) ∧ k_ ≠ gb361) ∧ k_ ≠ gb368)) (n := t337.length) (c := co103) ?_).2.2; exact (by (with_reducible repeat (first | apply Kd.R_alloc | apply Kd.R_drewN | apply Kd.R_drew)); exact (Kd.R_mono (Kd.R_far (p := ⟨gb368, 3, none⟩) (Kd.R_far (p := ⟨gb368, 2, none⟩) (Kd.R_far (p := ⟨gb368, 1, none⟩) (Kd.R_far (p := ⟨gb368, 0, none⟩) (Kd.R_mono HO341.out (fun k_ hk => (⟨hk, hk.2⟩ : _ ∧ k_ ≠ gb368))) (fun _ hk => hk.2) (.int .i64 t362)) (fun _ hk => hk.2) (.int .i64 t363)) (fun _ hk => hk.2) (.int .i64 t364)) (fun _ hk => hk.2) (.string t365)) (fun _ h_ => h_.1)))); (case side2 => exact (Kd.R_reads' HO341.out).2.1); (case side3 => refine (Kd.R_reads' (e := 27) (base := w.heap.size) (ok := fun k_ => (((True ∧ some k_ ≠ (.slice Ao103 t337.length co103 : Value).ownBlock) ∧ k_ ≠ gb361) ∧ k_ ≠ gb368)) (n := t342.length) (c := co104) ?_).2.2; exact (by (with_reducible repeat (first | apply Kd.R_alloc | apply Kd.R_drewN | apply Kd.R_drew)); exact (Kd.R_mono (Kd.R_far (p := ⟨gb368, 3, none⟩) (Kd.R_far (p := ⟨gb368, 2, none⟩) (Kd.R_far (p := ⟨gb368, 1, none⟩) (Kd.R_far (p := ⟨gb368, 0, none⟩) (Kd.R_mono HO346.out (fun k_ hk => (⟨hk, hk.2⟩ : _ ∧ k_ ≠ gb368))) (fun _ hk => hk.2) (.int .i64 t362)) (fun _ hk => hk.2) (.int .i64 t363)) (fun _ hk => hk.2) (.int .i64 t364)) (fun _ hk => hk.2) (.string t365)) (fun _ h_ => h_.1)))); (case side4 => exact (Kd.R_reads' HO346.out).2.1); rintro e w' ⟨rfl, ⟨nd, rfl⟩⟩; have hnb105 := NB361_368.out; have hnc105 := NB368_361.out; have hcz106_0 : w88.cell? ⟨gb361, 0, none⟩ = some (.int .i64 t355) := (blk_cell BK361.out 0).trans rfl; have hcz106_1 : w88.cell? ⟨gb361, 1, none⟩ = some (.int .i64 t356) := (blk_cell BK361.out 1).trans rfl; have hcz106_2 : w88.cell? ⟨gb361, 2, none⟩ = some (.int .i64 t357) := (blk_cell BK361.out 2).trans rfl; have hcz106_3 : w88.cell? ⟨gb361, 3, none⟩ = some (.string t358) := (blk_cell BK361.out 3).trans rfl; have hfz106_0 := blk_frozen BK361.out 0; have hfz106_1 := blk_frozen BK361.out 1; have hfz106_2 := blk_frozen BK361.out 2; have hfz106_3 := blk_frozen BK361.out 3; have hcz107_0 : w88.cell? ⟨gb368, 0, none⟩ = some (.int .i64 0) := (blk_cell BK368.out 0).trans rfl; have hcz107_1 : w88.cell? ⟨gb368, 1, none⟩ = some (.int .i64 0) := (blk_cell BK368.out 1).trans rfl; have hcz107_2 : w88.cell? ⟨gb368, 2, none⟩ = some (.int .i64 0) := (blk_cell BK368.out 2).trans rfl; have hcz107_3 : w88.cell? ⟨gb368, 3, none⟩ = some (.string (⟨#[]⟩ : ByteArray)) := (blk_cell BK368.out 3).trans rfl; have hfz107_0 := blk_frozen BK368.out 0; have hfz107_1 := blk_frozen BK368.out 1; have hfz107_2 := blk_frozen BK368.out 2; have hfz107_3 := blk_frozen BK368.out 3))
               go_meet
               case rel => exact ⟨_, ((!(t355 == t362) || (!(t356 == t363) || (!(t357 == t364) || (!(t358.toList == t365.toList)))))), (by first | rfl | (simp; done) | (simp [*]; done)), H', ⟨by have := HJ6.out; have := HJ13.out; first | omega | exact Nat.le_refl _⟩, ⟨by (with_reducible repeat (first | refine blk_drewN ?_ _ | refine blk_drew ?_ | refine blk_alloc ?_ _)); refine blk_far ?_ NB361_368.out _; (with_reducible repeat (first | refine blk_drewN ?_ _ | refine blk_drew ?_ | refine blk_alloc ?_ _)); refine blk_far ?_ NB361_368.out _; (with_reducible repeat (first | refine blk_drewN ?_ _ | refine blk_drew ?_ | refine blk_alloc ?_ _)); refine blk_far ?_ NB361_368.out _; (with_reducible repeat (first | refine blk_drewN ?_ _ | refine blk_drew ?_ | refine blk_alloc ?_ _)); refine blk_far ?_ NB361_368.out _; (with_reducible repeat (first | refine blk_drewN ?_ _ | refine blk_drew ?_ | refine blk_alloc ?_ _)); exact BK361.out⟩, ⟨by (with_reducible repeat (first | refine blk_drewN ?_ _ | refine blk_drew ?_ | refine blk_alloc ?_ _)); refine blk_put (cs := #[.int .i64 t362, .int .i64 t363, .int .i64 t364, .string (⟨#[]⟩ : ByteArray)]) ?_ 3 _ rfl; (with_reducible repeat (first | refine blk_drewN ?_ _ | refine blk_drew ?_ | refine blk_alloc ?_ _)); refine blk_put (cs := #[.int .i64 t362, .int .i64 t363, .int .i64 0, .string (⟨#[]⟩ : ByteArray)]) ?_ 2 _ rfl; (with_reducible repeat (first | refine blk_drewN ?_ _ | refine blk_drew ?_ | refine blk_alloc ?_ _)); refine blk_put (cs := #[.int .i64 t362, .int .i64 0, .int .i64 0, .string (⟨#[]⟩ : ByteArray)]) ?_ 1 _ rfl; (with_reducible repeat (first | refine blk_drewN ?_ _ | refine blk_drew ?_ | refine blk_alloc ?_ _)); refine blk_put (cs := #[.int .i64 0, .int .i64 0, .int .i64 0, .string (⟨#[]⟩ : ByteArray)]) ?_ 0 _ rfl; (with_reducible repeat (first | refine blk_drewN ?_ _ | refine blk_drew ?_ | refine blk_alloc ?_ _)); exact BK368.out⟩, ⟨by repeat (first | (with_reducible first | exact HB.out | apply below_alloc | apply pw_below_drewN | apply below_drew1 | refine below_set ?_ GE361.out | refine below_set ?_ GE368.out) | exact HB.out)⟩⟩
              ·rw [if_neg c102] at H
               have c102b0 : (t359 == t366) = false := beq_eq_false_iff_ne.mpr c102
               have c102b1 : (t359 != t366) = true := bne_iff_ne.mpr c102
               have H' := Aside0.mk H
               clear H
               obtain ⟨Ao108, co108, eo108⟩ := Kd.R_slice HO341.out
               subst eo108
               obtain ⟨Ao109, co109, eo109⟩ := Kd.R_slice HO346.out
               subst eo109
               go_wp2_with (first | (go_at_call 42; (with_reducible refine (laws_sameRecords.calls kj13 _ _ t337 _ _ t342 true _ ?side1 ?side2 ?side3 ?side4 A93.out).mono ?_); (case side1 => refine (Kd.R_reads' (e := 27) (base := w.heap.size) (ok := fun k_ => (((True ∧ some k_ ≠ (.slice Ao109 t342.length co109 : Value).ownBlock) ∧ k_ ≠ gb361) ∧ k_ ≠ gb368)) (n := t337.length) (c := co108) ?_).2.2; exact (by (with_reducible repeat (first | apply Kd.R_alloc | apply Kd.R_drewN | apply Kd.R_drew)); exact (Kd.R_mono (Kd.R_far (p := ⟨gb368, 3, none⟩) (Kd.R_far (p := ⟨gb368, 2, none⟩) (Kd.R_far (p := ⟨gb368, 1, none⟩) (Kd.R_far (p := ⟨gb368, 0, none⟩) (Kd.R_mono HO341.out (fun k_ hk => (⟨hk, hk.2⟩ : _ ∧ k_ ≠ gb368))) (fun _ hk => hk.2) (.int .i64 t362)) (fun _ hk => hk.2) (.int .i64 t363)) (fun _ hk => hk.2) (.int .i64 t364)) (fun _ hk => hk.2) (.string t365)) (fun _ h_ => h_.1)))); (case side2 => exact (Kd.R_reads' HO341.out).2.1); (case side3 => refine (Kd.R_reads' (e := 27) (base := w.heap.size) (ok := fun k_ => (((True ∧ some k_ ≠ (.slice Ao108 t337.length co108 : Value).ownBlock) ∧ k_ ≠ gb361) ∧ k_ ≠ gb368)) (n := t342.length) (c := co109) ?_).2.2; exact (by (with_reducible repeat (first | apply Kd.R_alloc | apply Kd.R_drewN | apply Kd.R_drew)); exact (Kd.R_mono (Kd.R_far (p := ⟨gb368, 3, none⟩) (Kd.R_far (p := ⟨gb368, 2, none⟩) (Kd.R_far (p := ⟨gb368, 1, none⟩) (Kd.R_far (p := ⟨gb368, 0, none⟩) (Kd.R_mono HO346.out (fun k_ hk => (⟨hk, hk.2⟩ : _ ∧ k_ ≠ gb368))) (fun _ hk => hk.2) (.int .i64 t362)) (fun _ hk => hk.2) (.int .i64 t363)) (fun _ hk => hk.2) (.int .i64 t364)) (fun _ hk => hk.2) (.string t365)) (fun _ h_ => h_.1)))); (case side4 => exact (Kd.R_reads' HO346.out).2.1); rintro e w' ⟨rfl, ⟨nd, rfl⟩⟩))
               go_meet
               case rel => exact ⟨_, (true), (by first | rfl | (simp; done) | (simp [*]; done)), H', ⟨by have := HJ6.out; have := HJ13.out; first | omega | exact Nat.le_refl _⟩, ⟨by (with_reducible repeat (first | refine blk_drewN ?_ _ | refine blk_drew ?_ | refine blk_alloc ?_ _)); refine blk_far ?_ NB361_368.out _; (with_reducible repeat (first | refine blk_drewN ?_ _ | refine blk_drew ?_ | refine blk_alloc ?_ _)); refine blk_far ?_ NB361_368.out _; (with_reducible repeat (first | refine blk_drewN ?_ _ | refine blk_drew ?_ | refine blk_alloc ?_ _)); refine blk_far ?_ NB361_368.out _; (with_reducible repeat (first | refine blk_drewN ?_ _ | refine blk_drew ?_ | refine blk_alloc ?_ _)); refine blk_far ?_ NB361_368.out _; (with_reducible repeat (first | refine blk_drewN ?_ _ | refine blk_drew ?_ | refine blk_alloc ?_ _)); exact BK361.out⟩, ⟨by (with_reducible repeat (first | refine blk_drewN ?_ _ | refine blk_drew ?_ | refine blk_alloc ?_ _)); refine blk_put (cs := #[.int .i64 t362, .int .i64 t363, .int .i64 t364, .string (⟨#[]⟩ : ByteArray)]) ?_ 3 _ rfl; (with_reducible repeat (first | refine blk_drewN ?_ _ | refine blk_drew ?_ | refine blk_alloc ?_ _)); refine blk_put (cs := #[.int .i64 t362, .int .i64 t363, .int .i64 0, .string (⟨#[]⟩ : ByteArray)]) ?_ 2 _ rfl; (with_reducible repeat (first | refine blk_drewN ?_ _ | refine blk_drew ?_ | refine blk_alloc ?_ _)); refine blk_put (cs := #[.int .i64 t362, .int .i64 0, .int .i64 0, .string (⟨#[]⟩ : ByteArray)]) ?_ 1 _ rfl; (with_reducible repeat (first | refine blk_drewN ?_ _ | refine blk_drew ?_ | refine blk_alloc ?_ _)); refine blk_put (cs := #[.int .i64 0, .int .i64 0, .int .i64 0, .string (⟨#[]⟩ : ByteArray)]) ?_ 0 _ rfl; (with_reducible repeat (first | refine blk_drewN ?_ _ | refine blk_drew ?_ | refine blk_alloc ?_ _)); exact BK368.out⟩, ⟨by repeat (first | (with_reducible first | exact HB.out | apply below_alloc | apply pw_below_drewN | apply below_drew1 | refine below_set ?_ GE361.out | refine below_set ?_ GE368.out) | exact HB.out)⟩⟩
            ·rw [if_neg c98] at H
             have c98b0 : (t349.toList == t351.toList) = false := beq_eq_false_iff_ne.mpr c98
             have c98b1 : (t349.toList != t351.toList) = true := bne_iff_ne.mpr c98
             have H' := Aside0.mk H
             clear H
             obtain ⟨Ao110, co110, eo110⟩ := Kd.R_slice HO341.out
             subst eo110
             obtain ⟨Ao111, co111, eo111⟩ := Kd.R_slice HO346.out
             subst eo111
             go_wp2_with (first | (go_at_call 42; (with_reducible refine (laws_sameRecords.calls kj13 _ _ t337 _ _ t342 true _ ?side1 ?side2 ?side3 ?side4 A93.out).mono ?_); (case side1 => refine (Kd.R_reads' (e := 27) (base := w.heap.size) (ok := fun k_ => (((True ∧ some k_ ≠ (.slice Ao111 t342.length co111 : Value).ownBlock) ∧ k_ ≠ gb361) ∧ k_ ≠ gb368)) (n := t337.length) (c := co110) ?_).2.2; exact (by (with_reducible repeat (first | apply Kd.R_alloc | apply Kd.R_drewN | apply Kd.R_drew)); exact (Kd.R_mono (Kd.R_far (p := ⟨gb368, 3, none⟩) (Kd.R_far (p := ⟨gb368, 2, none⟩) (Kd.R_far (p := ⟨gb368, 1, none⟩) (Kd.R_far (p := ⟨gb368, 0, none⟩) (Kd.R_mono HO341.out (fun k_ hk => (⟨hk, hk.2⟩ : _ ∧ k_ ≠ gb368))) (fun _ hk => hk.2) (.int .i64 t362)) (fun _ hk => hk.2) (.int .i64 t363)) (fun _ hk => hk.2) (.int .i64 t364)) (fun _ hk => hk.2) (.string t365)) (fun _ h_ => h_.1)))); (case side2 => exact (Kd.R_reads' HO341.out).2.1); (case side3 => refine (Kd.R_reads' (e := 27) (base := w.heap.size) (ok := fun k_ => (((True ∧ some k_ ≠ (.slice Ao110 t337.length co110 : Value).ownBlock) ∧ k_ ≠ gb361) ∧ k_ ≠ gb368)) (n := t342.length) (c := co111) ?_).2.2; exact (by (with_reducible repeat (first | apply Kd.R_alloc | apply Kd.R_drewN | apply Kd.R_drew)); exact (Kd.R_mono (Kd.R_far (p := ⟨gb368, 3, none⟩) (Kd.R_far (p := ⟨gb368, 2, none⟩) (Kd.R_far (p := ⟨gb368, 1, none⟩) (Kd.R_far (p := ⟨gb368, 0, none⟩) (Kd.R_mono HO346.out (fun k_ hk => (⟨hk, hk.2⟩ : _ ∧ k_ ≠ gb368))) (fun _ hk => hk.2) (.int .i64 t362)) (fun _ hk => hk.2) (.int .i64 t363)) (fun _ hk => hk.2) (.int .i64 t364)) (fun _ hk => hk.2) (.string t365)) (fun _ h_ => h_.1)))); (case side4 => exact (Kd.R_reads' HO346.out).2.1); rintro e w' ⟨rfl, ⟨nd, rfl⟩⟩))
             go_meet
             case rel => exact ⟨_, (true), (by first | rfl | (simp; done) | (simp [*]; done)), H', ⟨by have := HJ6.out; have := HJ13.out; first | omega | exact Nat.le_refl _⟩, ⟨by (with_reducible repeat (first | refine blk_drewN ?_ _ | refine blk_drew ?_ | refine blk_alloc ?_ _)); refine blk_far ?_ NB361_368.out _; (with_reducible repeat (first | refine blk_drewN ?_ _ | refine blk_drew ?_ | refine blk_alloc ?_ _)); refine blk_far ?_ NB361_368.out _; (with_reducible repeat (first | refine blk_drewN ?_ _ | refine blk_drew ?_ | refine blk_alloc ?_ _)); refine blk_far ?_ NB361_368.out _; (with_reducible repeat (first | refine blk_drewN ?_ _ | refine blk_drew ?_ | refine blk_alloc ?_ _)); refine blk_far ?_ NB361_368.out _; (with_reducible repeat (first | refine blk_drewN ?_ _ | refine blk_drew ?_ | refine blk_alloc ?_ _)); exact BK361.out⟩, ⟨by (with_reducible repeat (first | refine blk_drewN ?_ _ | refine blk_drew ?_ | refine blk_alloc ?_ _)); refine blk_put (cs := #[.int .i64 t362, .int .i64 t363, .int .i64 t364, .string (⟨#[]⟩ : ByteArray)]) ?_ 3 _ rfl; (with_reducible repeat (first | refine blk_drewN ?_ _ | refine blk_drew ?_ | refine blk_alloc ?_ _)); refine blk_put (cs := #[.int .i64 t362, .int .i64 t363, .int .i64 0, .string (⟨#[]⟩ : ByteArray)]) ?_ 2 _ rfl; (with_reducible repeat (first | refine blk_drewN ?_ _ | refine blk_drew ?_ | refine blk_alloc ?_ _)); refine blk_put (cs := #[.int .i64 t362, .int .i64 0, .int .i64 0, .string (⟨#[]⟩ : ByteArray)]) ?_ 1 _ rfl; (with_reducible repeat (first | refine blk_drewN ?_ _ | refine blk_drew ?_ | refine blk_alloc ?_ _)); refine blk_put (cs := #[.int .i64 0, .int .i64 0, .int .i64 0, .string (⟨#[]⟩ : ByteArray)]) ?_ 0 _ rfl; (with_reducible repeat (first | refine blk_drewN ?_ _ | refine blk_drew ?_ | refine blk_alloc ?_ _)); exact BK368.out⟩, ⟨by repeat (first | (with_reducible first | exact HB.out | apply below_alloc | apply pw_below_drewN | apply below_drew1 | refine below_set ?_ GE361.out | refine below_set ?_ GE368.out) | exact HB.out)⟩⟩
          ·replace c94 := Bool.eq_false_iff.mpr c94
           subst c94
           have H1 : (laws_FnRecords.j2 kj13 t353 t354 t359 t360 true t355 t356 t357 t358) = some r := by rw [if_neg (show ¬ (false = true) by decide)] at H; exact H
           clear H
           have H := H1
           clear H1
           have H' := Aside0.mk H
           clear H
           obtain ⟨Ao112, co112, eo112⟩ := Kd.R_slice HO341.out
           subst eo112
           obtain ⟨Ao113, co113, eo113⟩ := Kd.R_slice HO346.out
           subst eo113
           go_wp2_with (first | (go_at_call 42; (with_reducible refine (laws_sameRecords.calls kj13 _ _ t337 _ _ t342 false _ ?side1 ?side2 ?side3 ?side4 A93.out).mono ?_); (case side1 => refine (Kd.R_reads' (e := 27) (base := w.heap.size) (ok := fun k_ => (((True ∧ some k_ ≠ (.slice Ao113 t342.length co113 : Value).ownBlock) ∧ k_ ≠ gb361) ∧ k_ ≠ gb368)) (n := t337.length) (c := co112) ?_).2.2; exact (by (with_reducible repeat (first | apply Kd.R_alloc | apply Kd.R_drewN | apply Kd.R_drew)); exact (Kd.R_mono (Kd.R_far (p := ⟨gb368, 3, none⟩) (Kd.R_far (p := ⟨gb368, 2, none⟩) (Kd.R_far (p := ⟨gb368, 1, none⟩) (Kd.R_far (p := ⟨gb368, 0, none⟩) (Kd.R_mono HO341.out (fun k_ hk => (⟨hk, hk.2⟩ : _ ∧ k_ ≠ gb368))) (fun _ hk => hk.2) (.int .i64 t362)) (fun _ hk => hk.2) (.int .i64 t363)) (fun _ hk => hk.2) (.int .i64 t364)) (fun _ hk => hk.2) (.string t365)) (fun _ h_ => h_.1)))); (case side2 => exact (Kd.R_reads' HO341.out).2.1); (case side3 => refine (Kd.R_reads' (e := 27) (base := w.heap.size) (ok := fun k_ => (((True ∧ some k_ ≠ (.slice Ao112 t337.length co112 : Value).ownBlock) ∧ k_ ≠ gb361) ∧ k_ ≠ gb368)) (n := t342.length) (c := co113) ?_).2.2; exact (by (with_reducible repeat (first | apply Kd.R_alloc | apply Kd.R_drewN | apply Kd.R_drew)); exact (Kd.R_mono (Kd.R_far (p := ⟨gb368, 3, none⟩) (Kd.R_far (p := ⟨gb368, 2, none⟩) (Kd.R_far (p := ⟨gb368, 1, none⟩) (Kd.R_far (p := ⟨gb368, 0, none⟩) (Kd.R_mono HO346.out (fun k_ hk => (⟨hk, hk.2⟩ : _ ∧ k_ ≠ gb368))) (fun _ hk => hk.2) (.int .i64 t362)) (fun _ hk => hk.2) (.int .i64 t363)) (fun _ hk => hk.2) (.int .i64 t364)) (fun _ hk => hk.2) (.string t365)) (fun _ h_ => h_.1)))); (case side4 => exact (Kd.R_reads' HO346.out).2.1); rintro e w' ⟨rfl, ⟨nd, rfl⟩⟩))
           go_meet
           case rel => exact ⟨_, (true), (by first | rfl | (simp; done) | (simp [*]; done)), H', ⟨by have := HJ6.out; have := HJ13.out; first | omega | exact Nat.le_refl _⟩, ⟨by (with_reducible repeat (first | refine blk_drewN ?_ _ | refine blk_drew ?_ | refine blk_alloc ?_ _)); refine blk_far ?_ NB361_368.out _; (with_reducible repeat (first | refine blk_drewN ?_ _ | refine blk_drew ?_ | refine blk_alloc ?_ _)); refine blk_far ?_ NB361_368.out _; (with_reducible repeat (first | refine blk_drewN ?_ _ | refine blk_drew ?_ | refine blk_alloc ?_ _)); refine blk_far ?_ NB361_368.out _; (with_reducible repeat (first | refine blk_drewN ?_ _ | refine blk_drew ?_ | refine blk_alloc ?_ _)); refine blk_far ?_ NB361_368.out _; (with_reducible repeat (first | refine blk_drewN ?_ _ | refine blk_drew ?_ | refine blk_alloc ?_ _)); exact BK361.out⟩, ⟨by (with_reducible repeat (first | refine blk_drewN ?_ _ | refine blk_drew ?_ | refine blk_alloc ?_ _)); refine blk_put (cs := #[.int .i64 t362, .int .i64 t363, .int .i64 t364, .string (⟨#[]⟩ : ByteArray)]) ?_ 3 _ rfl; (with_reducible repeat (first | refine blk_drewN ?_ _ | refine blk_drew ?_ | refine blk_alloc ?_ _)); refine blk_put (cs := #[.int .i64 t362, .int .i64 t363, .int .i64 0, .string (⟨#[]⟩ : ByteArray)]) ?_ 2 _ rfl; (with_reducible repeat (first | refine blk_drewN ?_ _ | refine blk_drew ?_ | refine blk_alloc ?_ _)); refine blk_put (cs := #[.int .i64 t362, .int .i64 0, .int .i64 0, .string (⟨#[]⟩ : ByteArray)]) ?_ 1 _ rfl; (with_reducible repeat (first | refine blk_drewN ?_ _ | refine blk_drew ?_ | refine blk_alloc ?_ _)); refine blk_put (cs := #[.int .i64 0, .int .i64 0, .int .i64 0, .string (⟨#[]⟩ : ByteArray)]) ?_ 0 _ rfl; (with_reducible repeat (first | refine blk_drewN ?_ _ | refine blk_drew ?_ | refine blk_alloc ?_ _)); exact BK368.out⟩, ⟨by repeat (first | (with_reducible first | exact HB.out | apply below_alloc | apply pw_below_drewN | apply below_drew1 | refine below_set ?_ GE361.out | refine below_set ?_ GE368.out) | exact HB.out)⟩⟩
         ·rw [if_neg c92] at H
          have c92b0 : (t338 == t343) = false := beq_eq_false_iff_ne.mpr c92
          have c92b1 : (t338 != t343) = true := bne_iff_ne.mpr c92
          have H' := Aside0.mk H
          clear H
          go_wp2
          go_meet
          case rel => exact ⟨_, (true), (by first | rfl | (simp; done) | (simp [*]; done)), H', ⟨by have := HJ6.out; have := HJ13.out; first | omega | exact Nat.le_refl _⟩, ⟨by (with_reducible repeat (first | refine blk_drewN ?_ _ | refine blk_drew ?_ | refine blk_alloc ?_ _)); refine blk_far ?_ NB361_368.out _; (with_reducible repeat (first | refine blk_drewN ?_ _ | refine blk_drew ?_ | refine blk_alloc ?_ _)); refine blk_far ?_ NB361_368.out _; (with_reducible repeat (first | refine blk_drewN ?_ _ | refine blk_drew ?_ | refine blk_alloc ?_ _)); refine blk_far ?_ NB361_368.out _; (with_reducible repeat (first | refine blk_drewN ?_ _ | refine blk_drew ?_ | refine blk_alloc ?_ _)); refine blk_far ?_ NB361_368.out _; (with_reducible repeat (first | refine blk_drewN ?_ _ | refine blk_drew ?_ | refine blk_alloc ?_ _)); exact BK361.out⟩, ⟨by (with_reducible repeat (first | refine blk_drewN ?_ _ | refine blk_drew ?_ | refine blk_alloc ?_ _)); refine blk_put (cs := #[.int .i64 t362, .int .i64 t363, .int .i64 t364, .string (⟨#[]⟩ : ByteArray)]) ?_ 3 _ rfl; (with_reducible repeat (first | refine blk_drewN ?_ _ | refine blk_drew ?_ | refine blk_alloc ?_ _)); refine blk_put (cs := #[.int .i64 t362, .int .i64 t363, .int .i64 0, .string (⟨#[]⟩ : ByteArray)]) ?_ 2 _ rfl; (with_reducible repeat (first | refine blk_drewN ?_ _ | refine blk_drew ?_ | refine blk_alloc ?_ _)); refine blk_put (cs := #[.int .i64 t362, .int .i64 0, .int .i64 0, .string (⟨#[]⟩ : ByteArray)]) ?_ 1 _ rfl; (with_reducible repeat (first | refine blk_drewN ?_ _ | refine blk_drew ?_ | refine blk_alloc ?_ _)); refine blk_put (cs := #[.int .i64 0, .int .i64 0, .int .i64 0, .string (⟨#[]⟩ : ByteArray)]) ?_ 0 _ rfl; (with_reducible repeat (first | refine blk_drewN ?_ _ | refine blk_drew ?_ | refine blk_alloc ?_ _)); exact BK368.out⟩, ⟨by repeat (first | (with_reducible first | exact HB.out | apply below_alloc | apply pw_below_drewN | apply below_drew1 | refine below_set ?_ GE361.out | refine below_set ?_ GE368.out) | exact HB.out)⟩⟩
       case rest => as_aux_lemma =>
        clear HC76
        try clear c1
        try clear c2
        try clear p2
        try clear c3
        try clear c3b0
        try clear c4
        try clear q4
        try clear p6
        try clear c8
        try clear c9
        try clear c10
        try clear c12
        try clear c12b0
        try clear c12b1
        try clear c12b2
        try clear c13
        try clear c14
        try clear c15
        try clear c17
        try clear c18
        try clear c18b0
        try clear c18b1
        try clear c20
        try clear c21
        try clear c22
        try clear c22b0
        try clear c22b1
        try clear c24
        try clear c25
        try clear c26
        try clear c27
        try clear c27b0
        try clear c27b1
        try clear c32
        try clear c33
        try clear c33b0
        try clear c33b1
        try clear c34
        try clear c34b0
        try clear c34b1
        try clear c36
        try clear c41
        try clear q42
        try clear c43
        try clear c44
        try clear c45
        try clear q48
        try clear p64
        try clear c89
        try clear c91
        try clear c91b0
        try clear c91b1
        try clear c91b2
        try clear c92
        try clear c92b0
        try clear c92b1
        try clear c94
        try clear c95
        try clear c95b0
        try clear c95b1
        try clear c95b2
        try clear c98
        try clear c98b0
        try clear c98b1
        try clear c99
        try clear c99b0
        try clear c99b1
        try clear c99b2
        try clear c102
        try clear c102b0
        try clear c102b1
        try clear c105
        try clear hcz106_0
        try clear hcz106_1
        try clear hcz106_2
        try clear hcz106_3
        try clear hcz107_0
        try clear hcz107_1
        try clear hcz107_2
        try clear hcz107_3
        try clear hcz86_0
        try clear hcz86_1
        try clear hcz86_2
        try clear hcz86_3
        try clear hcz90_0
        try clear hcz90_1
        try clear hcz90_2
        try clear hcz90_3
        try clear hfz106_0
        try clear hfz106_1
        try clear hfz106_2
        try clear hfz106_3
        try clear hfz107_0
        try clear hfz107_1
        try clear hfz107_2
        try clear hfz107_3
        try clear hfz86_0
        try clear hfz86_1
        try clear hfz86_2
        try clear hfz86_3
        try clear hfz90_0
        try clear hfz90_1
        try clear hfz90_2
        try clear hfz90_3
        try clear p2
        try clear p6
        try clear p64
        try clear q4
        try clear q42
        try clear q48
        obtain ⟨kq, x217_75, rfl, HA, HJ75, BK361, BK368, HB⟩ := hcut
        cases kq with
        | zero => exact absurd HA.out (by simp [laws_FnRecords.j2])
        | succ kj75 =>
         have H := HA.out
         clear HA
         simp only [laws_FnRecords.j2] at H
         by_cases c114 : x217_75 = true
         ·subst c114
          have H1 : (some false) = some r := by rw [if_pos rfl] at H; exact H
          clear H
          have H := H1
          clear H1
          obtain rfl := Option.some.inj H
          go_wp2
          go_ret
          exact ⟨by first | rfl | (simp [errW_none, errW_some] <;> rfl) | (simp [*, errW_none, errW_some] <;> rfl), by repeat (first | (with_reducible first | exact HB.out | apply below_alloc | apply pw_below_drewN | apply below_drew1 | refine below_set ?_ GE361.out | refine below_set ?_ GE368.out) | exact HB.out)⟩
         ·replace c114 := Bool.eq_false_iff.mpr c114
          subst c114
          have H1 : (if t360 = true then ((impl_RecordText.f t355 t356 t357 t358).bind fun bt370 => (if bt370.2 = true then (if 0 ≤ t354 then (if t354 ≤ t359 then (if t359 ≤ (t353.size : Int) then (some ((t353.extract (t354 : Int).toNat (t359 : Int).toNat).toList == bt370.1.toList)) else (none)) else (none)) else (none)) else (some false))) else (some true)) = some r := by rw [if_neg (show ¬ (false = true) by decide)] at H; exact H
          clear H
          have H := H1
          clear H1
          by_cases c115 : t360 = true
          ·subst c115
           have H1 : ((impl_RecordText.f t355 t356 t357 t358).bind fun bt370 => (if bt370.2 = true then (if 0 ≤ t354 then (if t354 ≤ t359 then (if t359 ≤ (t353.size : Int) then (some ((t353.extract (t354 : Int).toNat (t359 : Int).toNat).toList == bt370.1.toList)) else (none)) else (none)) else (none)) else (some false))) = some r := by rw [if_pos rfl] at H; exact H
           clear H
           have H := H1
           clear H1
           replace H := Option.bind_eq_some_iff.mp H
           obtain ⟨⟨t370, t371⟩, A1160, H⟩ := H
           replace H : (if t371 = true then (if 0 ≤ t354 then (if t354 ≤ t359 then (if t359 ≤ (t353.size : Int) then (some ((t353.extract (t354 : Int).toNat (t359 : Int).toNat).toList == t370.toList)) else (none)) else (none)) else (none)) else (some false)) = some r := H
           have A116 := Aside0.mk A1160
           clear A1160
           by_cases c117 : t371 = true
           ·subst c117
            have H1 : (if 0 ≤ t354 then (if t354 ≤ t359 then (if t359 ≤ (t353.size : Int) then (some ((t353.extract (t354 : Int).toNat (t359 : Int).toNat).toList == t370.toList)) else (none)) else (none)) else (none)) = some r := by rw [if_pos rfl] at H; exact H
            clear H
            have H := H1
            clear H1
            by_cases c118 : 0 ≤ t354
            ·rw [if_pos c118] at H
             have c118b0 := eq_true c118
             have c118b1 : decide (0 ≤ t354) = true := decide_eq_true c118
             clear c118
             by_cases c119 : t354 ≤ t359
             ·rw [if_pos c119] at H
              have c119b0 := eq_true c119
              have c119b1 : decide (t354 ≤ t359) = true := decide_eq_true c119
              clear c119
              by_cases c120 : t359 ≤ (t353.size : Int)
              ·rw [if_pos c120] at H
               have c120b0 := eq_true c120
               have c120b1 : decide (t359 ≤ (t353.size : Int)) = true := decide_eq_true c120
               clear c120
               obtain rfl := Option.some.inj H
               have hnb121 := NB361_368.out
               have hnc121 := NB368_361.out
               have hcz122_0 : wc.cell? ⟨gb361, 0, none⟩ = some (.int .i64 t355) := (blk_cell BK361.out 0).trans rfl
               have hcz122_1 : wc.cell? ⟨gb361, 1, none⟩ = some (.int .i64 t356) := (blk_cell BK361.out 1).trans rfl
               have hcz122_2 : wc.cell? ⟨gb361, 2, none⟩ = some (.int .i64 t357) := (blk_cell BK361.out 2).trans rfl
               have hcz122_3 : wc.cell? ⟨gb361, 3, none⟩ = some (.string t358) := (blk_cell BK361.out 3).trans rfl
               have hfz122_0 := blk_frozen BK361.out 0
               have hfz122_1 := blk_frozen BK361.out 1
               have hfz122_2 := blk_frozen BK361.out 2
               have hfz122_3 := blk_frozen BK361.out 3
               go_wp2_with (first | ((with_reducible refine gate_callee (f := 13) rfl ?_); refine goesL_ (some 221) rfl rfl Try.func13 (by kernel_rfl) rfl #[.agg #[.int .i64 t355, .int .i64 t356, .int .i64 t357, .string t358]] rfl Mt ?_; (with_reducible refine (impl_RecordText.calls t355 t356 t357 t358 t370 true _ A116.out).mono ?_); rintro e w123 ⟨rfl, hb⟩; refine ⟨_, rfl, ?_⟩; have n0_ := Aside0.mk (blk_below (g := gb361) (o := .cells #[.int .i64 t355, .int .i64 t356, .int .i64 t357, .string t358] 27 (0, 0)) (by (with_reducible repeat (first | refine blk_drewN ?_ _ | refine blk_drew ?_ | refine blk_alloc ?_ _)); exact BK361.out) hb); have n1_ := Aside0.mk (blk_below (g := gb368) (o := .cells #[.int .i64 t362, .int .i64 t363, .int .i64 t364, .string t365] 27 (0, 0)) (by (with_reducible repeat (first | refine blk_drewN ?_ _ | refine blk_drew ?_ | refine blk_alloc ?_ _)); exact BK368.out) hb); have n2_ := Aside0.mk (below_step (by repeat (first | (with_reducible first | exact HB.out | apply below_alloc | apply pw_below_drewN | apply below_drew1 | refine below_set ?_ GE361.out | refine below_set ?_ GE368.out) | exact HB.out)) hb); clear BK361; clear BK368; clear HB; have BK361 := n0_; have BK368 := n1_; have HB := n2_; clear n0_ n1_ n2_; (try clear hb); (try clear hb2); (try clear hk); (try clear hi)))
               go_ret
               exact ⟨by first | rfl | (simp [errW_none, errW_some] <;> rfl) | (simp [*, errW_none, errW_some] <;> rfl), by repeat (first | (with_reducible first | exact HB.out | apply below_alloc | apply pw_below_drewN | apply below_drew1 | refine below_set ?_ GE361.out | refine below_set ?_ GE368.out) | exact HB.out)⟩
              ·rw [if_neg c120] at H
               exact absurd H (by simp)
             ·rw [if_neg c119] at H
              exact absurd H (by simp)
            ·rw [if_neg c118] at H
             exact absurd H (by simp)
           ·replace c117 := Bool.eq_false_iff.mpr c117
            subst c117
            have H1 : (some false) = some r := by rw [if_neg (show ¬ (false = true) by decide)] at H; exact H
            clear H
            have H := H1
            clear H1
            obtain rfl := Option.some.inj H
            have hnb124 := NB361_368.out
            have hnc124 := NB368_361.out
            have hcz125_0 : wc.cell? ⟨gb361, 0, none⟩ = some (.int .i64 t355) := (blk_cell BK361.out 0).trans rfl
            have hcz125_1 : wc.cell? ⟨gb361, 1, none⟩ = some (.int .i64 t356) := (blk_cell BK361.out 1).trans rfl
            have hcz125_2 : wc.cell? ⟨gb361, 2, none⟩ = some (.int .i64 t357) := (blk_cell BK361.out 2).trans rfl
            have hcz125_3 : wc.cell? ⟨gb361, 3, none⟩ = some (.string t358) := (blk_cell BK361.out 3).trans rfl
            have hfz125_0 := blk_frozen BK361.out 0
            have hfz125_1 := blk_frozen BK361.out 1
            have hfz125_2 := blk_frozen BK361.out 2
            have hfz125_3 := blk_frozen BK361.out 3
            go_wp2_with (first | ((with_reducible refine gate_callee (f := 13) rfl ?_); refine goesL_ (some 221) rfl rfl Try.func13 (by kernel_rfl) rfl #[.agg #[.int .i64 t355, .int .i64 t356, .int .i64 t357, .string t358]] rfl Mt ?_; (with_reducible refine (impl_RecordText.calls t355 t356 t357 t358 t370 false _ A116.out).mono ?_); rintro e w126 ⟨rfl, hb⟩; refine ⟨_, rfl, ?_⟩; have n0_ := Aside0.mk (blk_below (g := gb361) (o := .cells #[.int .i64 t355, .int .i64 t356, .int .i64 t357, .string t358] 27 (0, 0)) (by (with_reducible repeat (first | refine blk_drewN ?_ _ | refine blk_drew ?_ | refine blk_alloc ?_ _)); exact BK361.out) hb); have n1_ := Aside0.mk (blk_below (g := gb368) (o := .cells #[.int .i64 t362, .int .i64 t363, .int .i64 t364, .string t365] 27 (0, 0)) (by (with_reducible repeat (first | refine blk_drewN ?_ _ | refine blk_drew ?_ | refine blk_alloc ?_ _)); exact BK368.out) hb); have n2_ := Aside0.mk (below_step (by repeat (first | (with_reducible first | exact HB.out | apply below_alloc | apply pw_below_drewN | apply below_drew1 | refine below_set ?_ GE361.out | refine below_set ?_ GE368.out) | exact HB.out)) hb); clear BK361; clear BK368; clear HB; have BK361 := n0_; have BK368 := n1_; have HB := n2_; clear n0_ n1_ n2_; (try clear hb); (try clear hb2); (try clear hk); (try clear hi)))
            go_ret
            exact ⟨by first | rfl | (simp [errW_none, errW_some] <;> rfl) | (simp [*, errW_none, errW_some] <;> rfl), by repeat (first | (with_reducible first | exact HB.out | apply below_alloc | apply pw_below_drewN | apply below_drew1 | refine below_set ?_ GE361.out | refine below_set ?_ GE368.out) | exact HB.out)⟩
          ·replace c115 := Bool.eq_false_iff.mpr c115
           subst c115
           have H1 : (some true) = some r := by rw [if_neg (show ¬ (false = true) by decide)] at H; exact H
           clear H
           have H := H1
           clear H1
           obtain rfl := Option.some.inj H
           go_wp2
           go_ret
           exact ⟨by first | rfl | (simp [errW_none, errW_some] <;> rfl) | (simp [*, errW_none, errW_some] <;> rfl), by repeat (first | (with_reducible first | exact HB.out | apply below_alloc | apply pw_below_drewN | apply below_drew1 | refine below_set ?_ GE361.out | refine below_set ?_ GE368.out) | exact HB.out)⟩

/-- THE ONE PURE STATEMENT of laws_FnRecords: yours. -/
def laws_FnRecords.Pure : Prop := ∀ (l0 : List Int) (l1 : List Int), l0.length ≤ maxLen → l0.length * 1 ≤ 140737488351232 → (∀ x ∈ l0, (Lit.int .u8 x).wf = true) → l1.length ≤ maxLen → l1.length * 1 ≤ 140737488351232 → (∀ x ∈ l1, (Lit.int .u8 x).wf = true) → ∃ k, laws_FnRecords.f k l0 l1 = some true
theorem laws_FnRecords.walk (P : laws_FnRecords.Pure) (a0 : Option Addr) (len0 cap0 : Nat) (z0 : List Int) (a1 : Option Addr) (len1 cap1 : Nat) (z1 : List Int) (w : World) (w0 : (a0 = none ∧ len0 = 0 ∧ cap0 = 0 ∧ z0 = []) ∨ ∃ x, a0 = some x ∧ len0 ≤ cap0 ∧ cap0 ≤ maxLen ∧ z0.length = cap0 ∧ (∀ i, i < z0.length → w.cell? (x.add i) = some (.int .u8 (z0.getD i 0))) ∧ ∀ n ∈ z0, (Lit.int .u8 n).wf = true) (y0 : len0 * 1 ≤ 140737488351232) (w1 : (a1 = none ∧ len1 = 0 ∧ cap1 = 0 ∧ z1 = []) ∨ ∃ x, a1 = some x ∧ len1 ≤ cap1 ∧ cap1 ≤ maxLen ∧ z1.length = cap1 ∧ (∀ i, i < z1.length → w.cell? (x.add i) = some (.int .u8 (z1.getD i 0))) ∧ ∀ n ∈ z1, (Lit.int .u8 n).wf = true) (y1 : len1 * 1 ≤ 140737488351232) :
  Calls Try.prog 9 #[.slice a0 len0 cap0, .slice a1 len1 cap1] w fun e w' => e = .returned (.bool true) ∧ Below w.heap.size w w' := by
 obtain ⟨l0, rfl, hr0, hm0, hw0, hc0⟩ := ReadsInt.ofRowC w0
 obtain ⟨l1, rfl, hr1, hm1, hw1, hc1⟩ := ReadsInt.ofRowC w1
 obtain ⟨k, h⟩ := P l0 l1 hm0 y0 hw0 hm1 y1 hw1
 refine (laws_FnRecords.calls k _ _ l0 _ _ l1 true w (Kd.C_of_reads (d := (0 : Int)) (h1 := fun _ => rfl) hr0) hc0 (Kd.C_of_reads (d := (0 : Int)) (h1 := fun _ => rfl) hr1) hc1 h).mono ?_
 rintro e w' ⟨rfl, hd⟩
 exact ⟨rfl, hd⟩

end Go.Proofs.Ytjpeedbabjaidaa.PR

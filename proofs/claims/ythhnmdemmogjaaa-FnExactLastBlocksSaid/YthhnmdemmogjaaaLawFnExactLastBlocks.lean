-- Written by a program of this session (wip/xprint.py over the kit's printer), out of the translation; the texts of functions that the printer does not take are this session's own.
import Derived.Test.YthhnmdemmogjaaaRows
import Derived.Test.YthhnmdemmogjaaaPGx7
import Derived.Test.YthhnmdemmogjaaaPGx8
import Derived.Test.YthhnmdemmogjaaaPureFnExactLastBlocks
import Derived.WalkKit
import Derived.ProofKit
import Derived.OpenShut
import Derived.ShutString
import Derived.ChangeOld
import Derived.Below
import Derived.SizedLaws
namespace Go.Proofs.Ythhnmdemmogjaaa.fnExactLastBlocks
open Go.ChangeShapes Go.WideShapes Go.ChangeAt Go.RowKit Go.Proofs.Ythhnmdemmogjaaa.PG Go.Proofs.YthhnmdemmogjaaaW.PrintWords
open Go.ChangeMaps (open_string shut_string)
set_option linter.unusedVariables false
theorem own : ownKnob Try.prog.godebug = none := by kernel_rfl
theorem laidOut : laidOutB Try.prog = true := by kernel_rfl
set_option maxRecDepth 100000 in
theorem lifted (os : Os) (started : os.Started) (H : Type) (enc : TypeId × Value → H) :
    ReturnsInHanded {} Try.checked os 7 .any (Rows.fnExactLastBlocksSpec.pre6 enc Try.prog Try.f7 Rows.fnExactLastBlocksRow.domain false) (Rows.fnExactLastBlocksSpec.post enc Try.prog Try.f7 false true false false) := by
  refine returnsInHanded_of_change_sized (C := Try.checked) own started (by kernel_rfl) Try.func7
    (ChangeSpec.witness6 (enc := enc) (C := Try.checked) false ⟨#[], #[.agg #[.slice none 0 0]], []⟩ 8 (by kernel_rfl) (by kernel_rfl) (by kernel_rfl) (by kernel_rfl)) ?_
  intro W base args ds gs before hval0 hW hcnd hsz0 _
  have hval : ∀ (j : Nat) t v, Try.f7.params[j]? = some t → args[j]? = some v → Value.okWide Try.prog W .any base t v := hval0
  have hW' := hW
  obtain ⟨p, q, hA0, hV, rfl, hfz, hnd⟩ := hW
  have hA : DataW.TrodAll enc Try.prog W 0 (fun _ => true) true Try.f7.params.toList args.toList ds p := hA0
  rw [Try.params7] at hA hval
  obtain ⟨v0, vs0, d0, ds0, p0, q0, hargs, rfl, rfl, h0, r0⟩ := trodAll_cons hA
  obtain ⟨rfl, rfl, rfl⟩ := trodAll_nil r0
  obtain rfl : args = #[v0] := by cases args; simp_all
  obtain ⟨rfl, rfl⟩ := trodVars_none hV
  have k0 := h0
  have lt0 : ∀ x ∈ p0, x.block < W.heap.size := by obtain ⟨m, hm⟩ := k0; exact DataW.trod_lt m _ _ _ hm
  obtain ⟨fuel0, hf0⟩ := h0
  obtain ⟨y0, hK0, hw0⟩ := opens24 _ _ _ _ _ _ _ _ _ hf0
  obtain ⟨cs0, rfl, _⟩ := okWide_struct Try.underlying24 (hval 0 24 v0 rfl rfl)
  have ho0 := k24_open hK0
  obtain ⟨A0_0, c0_0, e0, hc0_0, hr0_0⟩ := ho0
  have e0' : cs0 = #[.slice A0_0 y0.f0.length c0_0] := by cases cs0; simpa [Value.cells] using e0
  subst e0'
  clear hA0 hval0 hsz0
  obtain ⟨k, hP⟩ := Pure.FnExactLastBlocks y0.f0 hw0
  refine (laws_FnExactLastBlocks.calls k _ _ y0.f0 true W hr0_0 hc0_0 hP).mono ?_
  rintro e W' ⟨rfl, bel0⟩
  have bel : Below W.heap.size W W' := bel0
  exact ⟨_, rfl, _, _, _, [], _, [], hW', trodAll_mk1 (shut_bool Try.underlying4 _), (trodAll_cons_mk (Below.trod laidOut (by kernel_rfl) (of_decide_eq_true (by kernel_rfl)) k0 bel lt0) trodAll_mk0), rfl, bel.frame _, fun h => by cases h⟩
theorem over : Rows.fnExactLastBlocksRow.holds Try.pinned (OpenSpec.ofChange Rows.fnExactLastBlocksSpec) :=
  OpenClaim.holds_of_wide 7 Try.f7 rfl rfl rfl rfl rfl rfl rfl ⟨rfl, rfl, rfl, rfl, rfl⟩ rfl rfl rfl rfl rfl (by kernel_rfl) Try.func7 (by kernel_rfl)
    (of_decide_eq_true (by kernel_rfl)) (by unfold Func.isWrapper; first | (rw [if_pos (by decide +kernel)]; kernel_rfl) | (rw [if_neg (by decide +kernel)]; exact ⟨rfl, rfl⟩))
    (fun os started H enc _ => lifted os started H enc)
theorem proved : Rows.FnExactLastBlocksSaid := over
#print axioms proved
end Go.Proofs.Ythhnmdemmogjaaa.fnExactLastBlocks
namespace Go.Proofs.Ythhnmdemmogjaaa
/-- The row, under a short name, for the claim. -/
theorem fnExactLastBlocks_holds : Rows.FnExactLastBlocksSaid := fnExactLastBlocks.proved
end Go.Proofs.Ythhnmdemmogjaaa

-- Written by a program of this session (wip/xprint.py over the kit's printer), out of the translation; the texts of functions that the printer does not take are this session's own.
import Derived.Test.YtncckighbgbboaaRows
import Derived.Test.YtncckighbgbboaaPCx9
import Derived.Test.YtncckighbgbboaaPureFnExactGoodWorks
import Derived.WalkKit
import Derived.ProofKit
import Derived.OpenShut
import Derived.ShutString
import Derived.ChangeOld
import Derived.Below
import Derived.SizedLaws
namespace Go.Proofs.Ytncckighbgbboaa.fnExactGoodWorks
open Go.ChangeShapes Go.WideShapes Go.ChangeAt Go.RowKit Go.Proofs.Ytncckighbgbboaa.PC Go.Proofs.YtncckighbgbboaaW.PrintWords
open Go.ChangeMaps (open_string shut_string)
set_option linter.unusedVariables false
theorem own : ownKnob Try.prog.godebug = none := by kernel_rfl
theorem laidOut : laidOutB Try.prog = true := by kernel_rfl
set_option maxRecDepth 100000 in
theorem lifted (os : Os) (started : os.Started) (H : Type) (enc : TypeId × Value → H) :
    ReturnsInHanded {} Try.checked os 6 .any (Rows.fnExactGoodWorksSpec.pre6 enc Try.prog Try.f6 Rows.fnExactGoodWorksRow.domain false) (Rows.fnExactGoodWorksSpec.post enc Try.prog Try.f6 false true false false) := by
  refine returnsInHanded_of_change_sized (C := Try.checked) own started (by kernel_rfl) Try.func6
    (ChangeSpec.witness6 (enc := enc) (C := Try.checked) false ⟨#[], #[.agg #[.slice none 0 0, .slice none 0 0, .slice none 0 0, .int .i64 0, .slice none 0 0]], []⟩ 8 (by kernel_rfl) (by kernel_rfl) (by kernel_rfl) (by kernel_rfl)) ?_
  intro W base args ds gs before hval0 hW hcnd hsz0 _
  have hval : ∀ (j : Nat) t v, Try.f6.params[j]? = some t → args[j]? = some v → Value.okWide Try.prog W .any base t v := hval0
  have hW' := hW
  obtain ⟨p, q, hA0, hV, rfl, hfz, hnd⟩ := hW
  have hA : DataW.TrodAll enc Try.prog W 0 (fun _ => true) true Try.f6.params.toList args.toList ds p := hA0
  rw [Try.params6] at hA hval
  obtain ⟨v0, vs0, d0, ds0, p0, q0, hargs, rfl, rfl, h0, r0⟩ := trodAll_cons hA
  obtain ⟨rfl, rfl, rfl⟩ := trodAll_nil r0
  obtain rfl : args = #[v0] := by cases args; simp_all
  obtain ⟨rfl, rfl⟩ := trodVars_none hV
  have k0 := h0
  have lt0 : ∀ x ∈ p0, x.block < W.heap.size := by obtain ⟨m, hm⟩ := k0; exact DataW.trod_lt m _ _ _ hm
  obtain ⟨fuel0, hf0⟩ := h0
  obtain ⟨y0, hK0, hw0⟩ := opens45 _ _ _ _ _ _ _ _ _ hf0
  obtain ⟨cs0, rfl, _⟩ := okWide_struct Try.underlying45 (hval 0 45 v0 rfl rfl)
  have ho0 := k45_open hK0
  obtain ⟨A0_0, c0_0, A0_1, c0_1, A0_2, c0_2, A0_4, c0_4, e0, hc0_0, hr0_0, hc0_1, hr0_1, hc0_2, hr0_2, hc0_4, hr0_4⟩ := ho0
  have e0' : cs0 = #[.slice A0_0 y0.f0.length c0_0, .slice A0_1 y0.f1.length c0_1, .slice A0_2 y0.f2.length c0_2, .int .i64 y0.f3, .slice A0_4 y0.f4.length c0_4] := by cases cs0; simpa [Value.cells] using e0
  subst e0'
  clear hA0 hval0 hsz0
  obtain ⟨k, hP⟩ := Pure.FnExactGoodWorks y0.f0 y0.f1 y0.f2 y0.f3 y0.f4 hw0
  refine (laws_FnExactGoodWorks.calls k _ _ y0.f0 _ _ y0.f1 _ _ y0.f2 y0.f3 _ _ y0.f4 true W hr0_0 hc0_0 hr0_1 hc0_1 hr0_2 hc0_2 hr0_4 hc0_4 hP).mono ?_
  rintro e W' ⟨rfl, bel0⟩
  have bel : Below W.heap.size W W' := bel0
  exact ⟨_, rfl, _, _, _, [], _, [], hW', trodAll_mk1 (shut_bool Try.underlying4 _), (trodAll_cons_mk (Below.trod laidOut (by kernel_rfl) (of_decide_eq_true (by kernel_rfl)) k0 bel lt0) trodAll_mk0), rfl, bel.frame _, fun h => by cases h⟩
theorem over : Rows.fnExactGoodWorksRow.holds Try.pinned (OpenSpec.ofChange Rows.fnExactGoodWorksSpec) :=
  OpenClaim.holds_of_wide 6 Try.f6 rfl rfl rfl rfl rfl rfl rfl ⟨rfl, rfl, rfl, rfl, rfl⟩ rfl rfl rfl rfl rfl (by kernel_rfl) Try.func6 (by kernel_rfl)
    (of_decide_eq_true (by kernel_rfl)) (by unfold Func.isWrapper; first | (rw [if_pos (by decide +kernel)]; kernel_rfl) | (rw [if_neg (by decide +kernel)]; exact ⟨rfl, rfl⟩))
    (fun os started H enc _ => lifted os started H enc)
theorem proved : Rows.FnExactGoodWorksSaid := over
#print axioms proved
end Go.Proofs.Ytncckighbgbboaa.fnExactGoodWorks
namespace Go.Proofs.Ytncckighbgbboaa
/-- The row, under a short name, for the claim. -/
theorem fnExactGoodWorks_holds : Rows.FnExactGoodWorksSaid := fnExactGoodWorks.proved
end Go.Proofs.Ytncckighbgbboaa

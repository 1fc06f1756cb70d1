/-
  No cell of these rows narrows 'for every input' (looked for: loops, veiled, ifaces, maps, wideKeys, modest, calm, conditions, laid).
  DERIVED. THE GIVEN ROWS OF THIS SEAT. 8 by the template 'for every input the law returns true; each argument reads behind the call as it read before'; 0 by the template 'total and deterministic' (their statements: YtlfgkodipeofiaaTotals.lean).
  GIVEN WITH THE SEED: the statements are not yours to turn. If you find one false, say at which input.
  Laid BY PROGRAM, IN A SANDBOX (cutbox-rows.mjs): the forced cells as the released guide's own fill.sh prints them over the translation bbf4643d1187ee0d… (all of the seat's roots in one cut). By AI agents, Wed Nov 11 2026. No macro, syntax, notation, axiom, sorry.
-/
import Derived.Test.YtlfgkodipeofiaaChecked
import GoSem.Claim
import GoSem.ClaimJoined
import GoSem.ClaimMapViews
import Derived.JoinedTies
import Derived.KernelRfl
namespace Go.Proofs.Ytlfgkodipeofiaa
/- THE CELL 'sum', in the pinned program and in every row, IS THE sha256 OF THE DUMP (.gsa) THAT YtlfgkodipeofiaaProg.lean LOADS. Nothing in Lean hashes anything: it is a label: what it is worth is what the hold of that sum in a sandbox is worth. -/
noncomputable def Try.pinned : Pinned := { name := "ytlfgkodipeofiaa", sum := "bbf4643d1187ee0dfe4c65edd93dd6b26872e434633262a06e05860527f17158", checked := Try.checked }
namespace Rows
def none {H : Type} : Left H := { results := [], args := [] }

/-- 'laws.FnExactRollOn': WHATEVER THE INPUT: true; the input reads as it did. -/
def fnExactRollOnSpec : ChangeSpec := { name := "fnExactRollOn", fn := fun _ => fun
  | [d1, d2, d3, d4] => { results := [.lit (.bool true)], args := [d1, d2, d3, d4] }
  | _ => none }
def fnExactRollOnRow : OpenClaim := { program := "ytlfgkodipeofiaa", sum := "bbf4643d1187ee0dfe4c65edd93dd6b26872e434633262a06e05860527f17158", func := "loop.example/g00541/laws.FnExactRollOn", spec := "fnExactRollOn", apart := false }
def FnExactRollOnSaid : Prop := fnExactRollOnRow.holds Try.pinned (OpenSpec.ofChange fnExactRollOnSpec)

/-- ITS FALSE NEIGHBOUR: 'it returns false'. Refute it at one input. -/
def fnExactRollOnWrong : ChangeSpec := { name := "fnExactRollOn", fn := fun _ => fun
  | [d1, d2, d3, d4] => { results := [.lit (.bool false)], args := [d1, d2, d3, d4] }
  | _ => none }
def FnExactRollOnWrongFalsely : Prop := fnExactRollOnRow.holds Try.pinned (OpenSpec.ofChange fnExactRollOnWrong)

/-- 'laws.FnExactRollOf': WHATEVER THE INPUT: true; the input reads as it did. -/
def fnExactRollOfSpec : ChangeSpec := { name := "fnExactRollOf", fn := fun _ => fun
  | [d] => { results := [.lit (.bool true)], args := [d] }
  | _ => none }
def fnExactRollOfRow : OpenClaim := { program := "ytlfgkodipeofiaa", sum := "bbf4643d1187ee0dfe4c65edd93dd6b26872e434633262a06e05860527f17158", func := "loop.example/g00541/laws.FnExactRollOf", spec := "fnExactRollOf", apart := false }
def FnExactRollOfSaid : Prop := fnExactRollOfRow.holds Try.pinned (OpenSpec.ofChange fnExactRollOfSpec)

/-- ITS FALSE NEIGHBOUR: 'it returns false'. Refute it at one input. -/
def fnExactRollOfWrong : ChangeSpec := { name := "fnExactRollOf", fn := fun _ => fun
  | [d] => { results := [.lit (.bool false)], args := [d] }
  | _ => none }
def FnExactRollOfWrongFalsely : Prop := fnExactRollOfRow.holds Try.pinned (OpenSpec.ofChange fnExactRollOfWrong)

/-- 'laws.FnExactBlockSums': WHATEVER THE INPUT: true; the input reads as it did. -/
def fnExactBlockSumsSpec : ChangeSpec := { name := "fnExactBlockSums", fn := fun _ => fun
  | [d] => { results := [.lit (.bool true)], args := [d] }
  | _ => none }
def fnExactBlockSumsRow : OpenClaim := { program := "ytlfgkodipeofiaa", sum := "bbf4643d1187ee0dfe4c65edd93dd6b26872e434633262a06e05860527f17158", func := "loop.example/g00541/laws.FnExactBlockSums", spec := "fnExactBlockSums", apart := false }
def FnExactBlockSumsSaid : Prop := fnExactBlockSumsRow.holds Try.pinned (OpenSpec.ofChange fnExactBlockSumsSpec)

/-- ITS FALSE NEIGHBOUR: 'it returns false'. Refute it at one input. -/
def fnExactBlockSumsWrong : ChangeSpec := { name := "fnExactBlockSums", fn := fun _ => fun
  | [d] => { results := [.lit (.bool false)], args := [d] }
  | _ => none }
def FnExactBlockSumsWrongFalsely : Prop := fnExactBlockSumsRow.holds Try.pinned (OpenSpec.ofChange fnExactBlockSumsWrong)

/-- 'laws.FnExactGoodDelta': WHATEVER THE INPUT: true; the input reads as it did. -/
def fnExactGoodDeltaSpec : ChangeSpec := { name := "fnExactGoodDelta", fn := fun _ => fun
  | [d1, d2] => { results := [.lit (.bool true)], args := [d1, d2] }
  | _ => none }
def fnExactGoodDeltaRow : OpenClaim := { program := "ytlfgkodipeofiaa", sum := "bbf4643d1187ee0dfe4c65edd93dd6b26872e434633262a06e05860527f17158", func := "loop.example/g00541/laws.FnExactGoodDelta", spec := "fnExactGoodDelta", unfollowed := true, recurses := true, apart := false }
def FnExactGoodDeltaSaid : Prop := fnExactGoodDeltaRow.holds Try.pinned (OpenSpec.ofChange fnExactGoodDeltaSpec)

/-- ITS FALSE NEIGHBOUR: 'it returns false'. Refute it at one input. -/
def fnExactGoodDeltaWrong : ChangeSpec := { name := "fnExactGoodDelta", fn := fun _ => fun
  | [d1, d2] => { results := [.lit (.bool false)], args := [d1, d2] }
  | _ => none }
def FnExactGoodDeltaWrongFalsely : Prop := fnExactGoodDeltaRow.holds Try.pinned (OpenSpec.ofChange fnExactGoodDeltaWrong)

/-- 'laws.FnRolled': WHATEVER THE INPUT: true; the input reads as it did. -/
def fnRolledSpec : ChangeSpec := { name := "fnRolled", fn := fun _ => fun
  | [d1, d2] => { results := [.lit (.bool true)], args := [d1, d2] }
  | _ => none }
def fnRolledRow : OpenClaim := { program := "ytlfgkodipeofiaa", sum := "bbf4643d1187ee0dfe4c65edd93dd6b26872e434633262a06e05860527f17158", func := "loop.example/g00541/laws.FnRolled", spec := "fnRolled", apart := false }
def FnRolledSaid : Prop := fnRolledRow.holds Try.pinned (OpenSpec.ofChange fnRolledSpec)

/-- ITS FALSE NEIGHBOUR: 'it returns false'. Refute it at one input. -/
def fnRolledWrong : ChangeSpec := { name := "fnRolled", fn := fun _ => fun
  | [d1, d2] => { results := [.lit (.bool false)], args := [d1, d2] }
  | _ => none }
def FnRolledWrongFalsely : Prop := fnRolledRow.holds Try.pinned (OpenSpec.ofChange fnRolledWrong)

/-- 'laws.FnExactApplyDelta': WHATEVER THE INPUT: true; the input reads as it did. -/
def fnExactApplyDeltaSpec : ChangeSpec := { name := "fnExactApplyDelta", fn := fun _ => fun
  | [d1, d2] => { results := [.lit (.bool true)], args := [d1, d2] }
  | _ => none }
def fnExactApplyDeltaRow : OpenClaim := { program := "ytlfgkodipeofiaa", sum := "bbf4643d1187ee0dfe4c65edd93dd6b26872e434633262a06e05860527f17158", func := "loop.example/g00541/laws.FnExactApplyDelta", spec := "fnExactApplyDelta", unfollowed := true, recurses := true, apart := false }
def FnExactApplyDeltaSaid : Prop := fnExactApplyDeltaRow.holds Try.pinned (OpenSpec.ofChange fnExactApplyDeltaSpec)

/-- ITS FALSE NEIGHBOUR: 'it returns false'. Refute it at one input. -/
def fnExactApplyDeltaWrong : ChangeSpec := { name := "fnExactApplyDelta", fn := fun _ => fun
  | [d1, d2] => { results := [.lit (.bool false)], args := [d1, d2] }
  | _ => none }
def FnExactApplyDeltaWrongFalsely : Prop := fnExactApplyDeltaRow.holds Try.pinned (OpenSpec.ofChange fnExactApplyDeltaWrong)

/-- 'laws.FnExactDeltaOf': WHATEVER THE INPUT: true; the input reads as it did. -/
def fnExactDeltaOfSpec : ChangeSpec := { name := "fnExactDeltaOf", fn := fun _ => fun
  | [d1, d2] => { results := [.lit (.bool true)], args := [d1, d2] }
  | _ => none }
def fnExactDeltaOfRow : OpenClaim := { program := "ytlfgkodipeofiaa", sum := "bbf4643d1187ee0dfe4c65edd93dd6b26872e434633262a06e05860527f17158", func := "loop.example/g00541/laws.FnExactDeltaOf", spec := "fnExactDeltaOf", unfollowed := true, recurses := true, apart := false }
def FnExactDeltaOfSaid : Prop := fnExactDeltaOfRow.holds Try.pinned (OpenSpec.ofChange fnExactDeltaOfSpec)

/-- ITS FALSE NEIGHBOUR: 'it returns false'. Refute it at one input. -/
def fnExactDeltaOfWrong : ChangeSpec := { name := "fnExactDeltaOf", fn := fun _ => fun
  | [d1, d2] => { results := [.lit (.bool false)], args := [d1, d2] }
  | _ => none }
def FnExactDeltaOfWrongFalsely : Prop := fnExactDeltaOfRow.holds Try.pinned (OpenSpec.ofChange fnExactDeltaOfWrong)

/-- 'laws.FnExactThenDelta': WHATEVER THE INPUT: true; the input reads as it did. -/
def fnExactThenDeltaSpec : ChangeSpec := { name := "fnExactThenDelta", fn := fun _ => fun
  | [d1, d2, d3] => { results := [.lit (.bool true)], args := [d1, d2, d3] }
  | _ => none }
def fnExactThenDeltaRow : OpenClaim := { program := "ytlfgkodipeofiaa", sum := "bbf4643d1187ee0dfe4c65edd93dd6b26872e434633262a06e05860527f17158", func := "loop.example/g00541/laws.FnExactThenDelta", spec := "fnExactThenDelta", unfollowed := true, recurses := true, apart := false }
def FnExactThenDeltaSaid : Prop := fnExactThenDeltaRow.holds Try.pinned (OpenSpec.ofChange fnExactThenDeltaSpec)

/-- ITS FALSE NEIGHBOUR: 'it returns false'. Refute it at one input. -/
def fnExactThenDeltaWrong : ChangeSpec := { name := "fnExactThenDelta", fn := fun _ => fun
  | [d1, d2, d3] => { results := [.lit (.bool false)], args := [d1, d2, d3] }
  | _ => none }
def FnExactThenDeltaWrongFalsely : Prop := fnExactThenDeltaRow.holds Try.pinned (OpenSpec.ofChange fnExactThenDeltaWrong)

/- THE SECOND FORM. 'bulk': how many values and letters a reading holds, each counted each time it is reached (what is shared counts as often as it is met; a slice's spare places count too). A statement '..UptoSaid' is the law's where the arguments, and the package variables that the reading takes, are together of bulk at most 1048576: NARROWER than '..Said'. Prove '..Said' where nothing that the law and all that it calls make is longer than what came in: it says more and counts as full. Else prove '..UptoSaid'. A law counts once. -/
mutual
def uptoBulk {H : Type} : DataW H → Nat
  | .lit (.string bytes) => bytes.length + 1
  | .lit _ => 1
  | .nil => 1
  | .ptr d => uptoBulk d + 1
  | .slice elems spare => uptoBulkAll elems + uptoBulkAll spare + 1
  | .agg parts => uptoBulkAll parts + 1
  | .iface _ d => uptoBulk d + 1
  | .map entries => uptoBulkEntries entries + 1
  | .held _ => 1
def uptoBulkAll {H : Type} : List (DataW H) → Nat
  | [] => 0
  | d :: r => uptoBulk d + uptoBulkAll r
def uptoBulkEntries {H : Type} : List (Lit × DataW H) → Nat
  | [] => 0
  | x :: r => uptoBulkEntry x + uptoBulkEntries r
def uptoBulkEntry {H : Type} : Lit × DataW H → Nat
  | (.string bytes, d) => bytes.length + uptoBulk d + 1
  | (_, d) => uptoBulk d + 1
 end
def uptoSmall : (H : Type) → List (DataW H) → Bool := fun _ ds => decide (uptoBulkAll ds ≤ 1048576)
def OpenSpec.upto (s : _root_.Go.ChangeSpec) : _root_.Go.OpenSpec := { _root_.Go.OpenSpec.ofChange s with cond := some uptoSmall }

/-- 'laws.FnExactRollOn', WHERE WHAT IT READS IS OF BULK AT MOST 1048576: true; the input reads as it did. -/
def fnExactRollOnUptoRow : OpenClaim := { program := "ytlfgkodipeofiaa", sum := "bbf4643d1187ee0dfe4c65edd93dd6b26872e434633262a06e05860527f17158", func := "loop.example/g00541/laws.FnExactRollOn", spec := "fnExactRollOn", apart := false, narrowed := true }
def FnExactRollOnUptoSaid : Prop := fnExactRollOnUptoRow.holds Try.pinned (OpenSpec.upto fnExactRollOnSpec)

/-- 'laws.FnExactRollOf', WHERE WHAT IT READS IS OF BULK AT MOST 1048576: true; the input reads as it did. -/
def fnExactRollOfUptoRow : OpenClaim := { program := "ytlfgkodipeofiaa", sum := "bbf4643d1187ee0dfe4c65edd93dd6b26872e434633262a06e05860527f17158", func := "loop.example/g00541/laws.FnExactRollOf", spec := "fnExactRollOf", apart := false, narrowed := true }
def FnExactRollOfUptoSaid : Prop := fnExactRollOfUptoRow.holds Try.pinned (OpenSpec.upto fnExactRollOfSpec)

/-- 'laws.FnExactBlockSums', WHERE WHAT IT READS IS OF BULK AT MOST 1048576: true; the input reads as it did. -/
def fnExactBlockSumsUptoRow : OpenClaim := { program := "ytlfgkodipeofiaa", sum := "bbf4643d1187ee0dfe4c65edd93dd6b26872e434633262a06e05860527f17158", func := "loop.example/g00541/laws.FnExactBlockSums", spec := "fnExactBlockSums", apart := false, narrowed := true }
def FnExactBlockSumsUptoSaid : Prop := fnExactBlockSumsUptoRow.holds Try.pinned (OpenSpec.upto fnExactBlockSumsSpec)

/-- 'laws.FnExactGoodDelta', WHERE WHAT IT READS IS OF BULK AT MOST 1048576: true; the input reads as it did. -/
def fnExactGoodDeltaUptoRow : OpenClaim := { program := "ytlfgkodipeofiaa", sum := "bbf4643d1187ee0dfe4c65edd93dd6b26872e434633262a06e05860527f17158", func := "loop.example/g00541/laws.FnExactGoodDelta", spec := "fnExactGoodDelta", unfollowed := true, recurses := true, apart := false, narrowed := true }
def FnExactGoodDeltaUptoSaid : Prop := fnExactGoodDeltaUptoRow.holds Try.pinned (OpenSpec.upto fnExactGoodDeltaSpec)

/-- 'laws.FnRolled', WHERE WHAT IT READS IS OF BULK AT MOST 1048576: true; the input reads as it did. -/
def fnRolledUptoRow : OpenClaim := { program := "ytlfgkodipeofiaa", sum := "bbf4643d1187ee0dfe4c65edd93dd6b26872e434633262a06e05860527f17158", func := "loop.example/g00541/laws.FnRolled", spec := "fnRolled", apart := false, narrowed := true }
def FnRolledUptoSaid : Prop := fnRolledUptoRow.holds Try.pinned (OpenSpec.upto fnRolledSpec)

/-- 'laws.FnExactApplyDelta', WHERE WHAT IT READS IS OF BULK AT MOST 1048576: true; the input reads as it did. -/
def fnExactApplyDeltaUptoRow : OpenClaim := { program := "ytlfgkodipeofiaa", sum := "bbf4643d1187ee0dfe4c65edd93dd6b26872e434633262a06e05860527f17158", func := "loop.example/g00541/laws.FnExactApplyDelta", spec := "fnExactApplyDelta", unfollowed := true, recurses := true, apart := false, narrowed := true }
def FnExactApplyDeltaUptoSaid : Prop := fnExactApplyDeltaUptoRow.holds Try.pinned (OpenSpec.upto fnExactApplyDeltaSpec)

/-- 'laws.FnExactDeltaOf', WHERE WHAT IT READS IS OF BULK AT MOST 1048576: true; the input reads as it did. -/
def fnExactDeltaOfUptoRow : OpenClaim := { program := "ytlfgkodipeofiaa", sum := "bbf4643d1187ee0dfe4c65edd93dd6b26872e434633262a06e05860527f17158", func := "loop.example/g00541/laws.FnExactDeltaOf", spec := "fnExactDeltaOf", unfollowed := true, recurses := true, apart := false, narrowed := true }
def FnExactDeltaOfUptoSaid : Prop := fnExactDeltaOfUptoRow.holds Try.pinned (OpenSpec.upto fnExactDeltaOfSpec)

/-- 'laws.FnExactThenDelta', WHERE WHAT IT READS IS OF BULK AT MOST 1048576: true; the input reads as it did. -/
def fnExactThenDeltaUptoRow : OpenClaim := { program := "ytlfgkodipeofiaa", sum := "bbf4643d1187ee0dfe4c65edd93dd6b26872e434633262a06e05860527f17158", func := "loop.example/g00541/laws.FnExactThenDelta", spec := "fnExactThenDelta", unfollowed := true, recurses := true, apart := false, narrowed := true }
def FnExactThenDeltaUptoSaid : Prop := fnExactThenDeltaUptoRow.holds Try.pinned (OpenSpec.upto fnExactThenDeltaSpec)

end Rows
end Go.Proofs.Ytlfgkodipeofiaa

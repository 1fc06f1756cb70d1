/-
  No cell of these rows narrows 'for every input' (looked for: loops, veiled, ifaces, maps, wideKeys, modest, calm, conditions, laid).
  DERIVED. THE GIVEN ROWS OF THIS SEAT. 7 by the template 'for every input the law returns true; each argument reads behind the call as it read before'; 0 by the template 'total and deterministic' (their statements: YthhnmdemmogjaaaTotals.lean).
  GIVEN WITH THE SEED: the statements are not yours to turn. If you find one false, say at which input.
  Laid BY PROGRAM, IN A SANDBOX (cutbox-rows.mjs): the forced cells as the released guide's own fill.sh prints them over the translation 3ebff888d665f0d9… (all of the seat's roots in one cut). By AI agents, Wed Nov 11 2026. No macro, syntax, notation, axiom, sorry.
-/
import Derived.Test.YthhnmdemmogjaaaChecked
import GoSem.Claim
import GoSem.ClaimJoined
import GoSem.ClaimMapViews
import Derived.JoinedTies
import Derived.KernelRfl
namespace Go.Proofs.Ythhnmdemmogjaaa
/- THE CELL 'sum', in the pinned program and in every row, IS THE sha256 OF THE DUMP (.gsa) THAT YthhnmdemmogjaaaProg.lean LOADS. Nothing in Lean hashes anything: it is a label: what it is worth is what the hold of that sum in a sandbox is worth. -/
noncomputable def Try.pinned : Pinned := { name := "ythhnmdemmogjaaa", sum := "3ebff888d665f0d90681c7474efc18b1776340c674b8d017732926dfa3574101", checked := Try.checked }
namespace Rows
def none {H : Type} : Left H := { results := [], args := [] }

/-- 'laws.FnExactPlanSync': WHATEVER THE INPUT: true; the input reads as it did. -/
def fnExactPlanSyncSpec : ChangeSpec := { name := "fnExactPlanSync", fn := fun _ => fun
  | [d1, d2, d3] => { results := [.lit (.bool true)], args := [d1, d2, d3] }
  | _ => none }
def fnExactPlanSyncRow : OpenClaim := { program := "ythhnmdemmogjaaa", sum := "3ebff888d665f0d90681c7474efc18b1776340c674b8d017732926dfa3574101", func := "loop.example/g00541/laws.FnExactPlanSync", spec := "fnExactPlanSync", unfollowed := true, recurses := true, apart := false }
def FnExactPlanSyncSaid : Prop := fnExactPlanSyncRow.holds Try.pinned (OpenSpec.ofChange fnExactPlanSyncSpec)

/-- ITS FALSE NEIGHBOUR: 'it returns false'. Refute it at one input. -/
def fnExactPlanSyncWrong : ChangeSpec := { name := "fnExactPlanSync", fn := fun _ => fun
  | [d1, d2, d3] => { results := [.lit (.bool false)], args := [d1, d2, d3] }
  | _ => none }
def FnExactPlanSyncWrongFalsely : Prop := fnExactPlanSyncRow.holds Try.pinned (OpenSpec.ofChange fnExactPlanSyncWrong)

/-- 'laws.FnCommon': WHATEVER THE INPUT: true; the input reads as it did. -/
def fnCommonSpec : ChangeSpec := { name := "fnCommon", fn := fun _ => fun
  | [d1, d2] => { results := [.lit (.bool true)], args := [d1, d2] }
  | _ => none }
def fnCommonRow : OpenClaim := { program := "ythhnmdemmogjaaa", sum := "3ebff888d665f0d90681c7474efc18b1776340c674b8d017732926dfa3574101", func := "loop.example/g00541/laws.FnCommon", spec := "fnCommon", unfollowed := true, recurses := true, apart := false }
def FnCommonSaid : Prop := fnCommonRow.holds Try.pinned (OpenSpec.ofChange fnCommonSpec)

/-- ITS FALSE NEIGHBOUR: 'it returns false'. Refute it at one input. -/
def fnCommonWrong : ChangeSpec := { name := "fnCommon", fn := fun _ => fun
  | [d1, d2] => { results := [.lit (.bool false)], args := [d1, d2] }
  | _ => none }
def FnCommonWrongFalsely : Prop := fnCommonRow.holds Try.pinned (OpenSpec.ofChange fnCommonWrong)

/-- 'laws.FnExactNewMirror': WHATEVER THE INPUT: true; the input reads as it did. -/
def fnExactNewMirrorSpec : ChangeSpec := { name := "fnExactNewMirror", fn := fun _ => fun
  | [] => { results := [.lit (.bool true)], args := [] }
  | _ => none }
def fnExactNewMirrorRow : OpenClaim := { program := "ythhnmdemmogjaaa", sum := "3ebff888d665f0d90681c7474efc18b1776340c674b8d017732926dfa3574101", func := "loop.example/g00541/laws.FnExactNewMirror", spec := "fnExactNewMirror", apart := false }
def FnExactNewMirrorSaid : Prop := fnExactNewMirrorRow.holds Try.pinned (OpenSpec.ofChange fnExactNewMirrorSpec)

/-- ITS FALSE NEIGHBOUR: 'it returns false'. Refute it at one input. -/
def fnExactNewMirrorWrong : ChangeSpec := { name := "fnExactNewMirror", fn := fun _ => fun
  | [] => { results := [.lit (.bool false)], args := [] }
  | _ => none }
def FnExactNewMirrorWrongFalsely : Prop := fnExactNewMirrorRow.holds Try.pinned (OpenSpec.ofChange fnExactNewMirrorWrong)

/-- 'laws.FnExactSameAt': WHATEVER THE INPUT: true; the input reads as it did. -/
def fnExactSameAtSpec : ChangeSpec := { name := "fnExactSameAt", fn := fun _ => fun
  | [d1, d2, d3] => { results := [.lit (.bool true)], args := [d1, d2, d3] }
  | _ => none }
def fnExactSameAtRow : OpenClaim := { program := "ythhnmdemmogjaaa", sum := "3ebff888d665f0d90681c7474efc18b1776340c674b8d017732926dfa3574101", func := "loop.example/g00541/laws.FnExactSameAt", spec := "fnExactSameAt", unfollowed := true, recurses := true, apart := false }
def FnExactSameAtSaid : Prop := fnExactSameAtRow.holds Try.pinned (OpenSpec.ofChange fnExactSameAtSpec)

/-- ITS FALSE NEIGHBOUR: 'it returns false'. Refute it at one input. -/
def fnExactSameAtWrong : ChangeSpec := { name := "fnExactSameAt", fn := fun _ => fun
  | [d1, d2, d3] => { results := [.lit (.bool false)], args := [d1, d2, d3] }
  | _ => none }
def FnExactSameAtWrongFalsely : Prop := fnExactSameAtRow.holds Try.pinned (OpenSpec.ofChange fnExactSameAtWrong)

/-- 'laws.FnExactLastBlocks': WHATEVER THE INPUT: true; the input reads as it did. -/
def fnExactLastBlocksSpec : ChangeSpec := { name := "fnExactLastBlocks", fn := fun _ => fun
  | [d] => { results := [.lit (.bool true)], args := [d] }
  | _ => none }
def fnExactLastBlocksRow : OpenClaim := { program := "ythhnmdemmogjaaa", sum := "3ebff888d665f0d90681c7474efc18b1776340c674b8d017732926dfa3574101", func := "loop.example/g00541/laws.FnExactLastBlocks", spec := "fnExactLastBlocks", unfollowed := true, recurses := true, apart := false }
def FnExactLastBlocksSaid : Prop := fnExactLastBlocksRow.holds Try.pinned (OpenSpec.ofChange fnExactLastBlocksSpec)

/-- ITS FALSE NEIGHBOUR: 'it returns false'. Refute it at one input. -/
def fnExactLastBlocksWrong : ChangeSpec := { name := "fnExactLastBlocks", fn := fun _ => fun
  | [d] => { results := [.lit (.bool false)], args := [d] }
  | _ => none }
def FnExactLastBlocksWrongFalsely : Prop := fnExactLastBlocksRow.holds Try.pinned (OpenSpec.ofChange fnExactLastBlocksWrong)

/-- 'laws.FnExactCommonMark': WHATEVER THE INPUT: true; the input reads as it did. -/
def fnExactCommonMarkSpec : ChangeSpec := { name := "fnExactCommonMark", fn := fun _ => fun
  | [d1, d2] => { results := [.lit (.bool true)], args := [d1, d2] }
  | _ => none }
def fnExactCommonMarkRow : OpenClaim := { program := "ythhnmdemmogjaaa", sum := "3ebff888d665f0d90681c7474efc18b1776340c674b8d017732926dfa3574101", func := "loop.example/g00541/laws.FnExactCommonMark", spec := "fnExactCommonMark", unfollowed := true, recurses := true, apart := false }
def FnExactCommonMarkSaid : Prop := fnExactCommonMarkRow.holds Try.pinned (OpenSpec.ofChange fnExactCommonMarkSpec)

/-- ITS FALSE NEIGHBOUR: 'it returns false'. Refute it at one input. -/
def fnExactCommonMarkWrong : ChangeSpec := { name := "fnExactCommonMark", fn := fun _ => fun
  | [d1, d2] => { results := [.lit (.bool false)], args := [d1, d2] }
  | _ => none }
def FnExactCommonMarkWrongFalsely : Prop := fnExactCommonMarkRow.holds Try.pinned (OpenSpec.ofChange fnExactCommonMarkWrong)

/-- 'laws.FnExactDirtyIn': WHATEVER THE INPUT: true; the input reads as it did. -/
def fnExactDirtyInSpec : ChangeSpec := { name := "fnExactDirtyIn", fn := fun _ => fun
  | [d1, d2] => { results := [.lit (.bool true)], args := [d1, d2] }
  | _ => none }
def fnExactDirtyInRow : OpenClaim := { program := "ythhnmdemmogjaaa", sum := "3ebff888d665f0d90681c7474efc18b1776340c674b8d017732926dfa3574101", func := "loop.example/g00541/laws.FnExactDirtyIn", spec := "fnExactDirtyIn", unfollowed := true, recurses := true, apart := false }
def FnExactDirtyInSaid : Prop := fnExactDirtyInRow.holds Try.pinned (OpenSpec.ofChange fnExactDirtyInSpec)

/-- ITS FALSE NEIGHBOUR: 'it returns false'. Refute it at one input. -/
def fnExactDirtyInWrong : ChangeSpec := { name := "fnExactDirtyIn", fn := fun _ => fun
  | [d1, d2] => { results := [.lit (.bool false)], args := [d1, d2] }
  | _ => none }
def FnExactDirtyInWrongFalsely : Prop := fnExactDirtyInRow.holds Try.pinned (OpenSpec.ofChange fnExactDirtyInWrong)

/- THE SECOND FORM. 'bulk': how many values and letters a reading holds, each counted each time it is reached (what is shared counts as often as it is met; a slice's spare places count too). A statement '..UptoSaid' is the law's where the arguments, and the package variables that the reading takes, are together of bulk at most 1048576: NARROWER than '..Said'. Prove '..Said' where nothing that the law and all that it calls make is longer than what came in: it says more and counts as full. Else prove '..UptoSaid'. A law counts once. -/
mutual
def uptoBulk {H : Type} : DataW H → Nat
  | .lit (.string bytes) => bytes.length + 1
  | .lit _ => 1
  | .nil => 1
  | .ptr d => uptoBulk d + 1
  | .slice elems spare => uptoBulkAll elems + uptoBulkAll spare + 1
  | .agg parts => uptoBulkAll parts + 1
  | .iface _ d => uptoBulk d + 1
  | .map entries => uptoBulkEntries entries + 1
  | .held _ => 1
def uptoBulkAll {H : Type} : List (DataW H) → Nat
  | [] => 0
  | d :: r => uptoBulk d + uptoBulkAll r
def uptoBulkEntries {H : Type} : List (Lit × DataW H) → Nat
  | [] => 0
  | x :: r => uptoBulkEntry x + uptoBulkEntries r
def uptoBulkEntry {H : Type} : Lit × DataW H → Nat
  | (.string bytes, d) => bytes.length + uptoBulk d + 1
  | (_, d) => uptoBulk d + 1
 end
def uptoSmall : (H : Type) → List (DataW H) → Bool := fun _ ds => decide (uptoBulkAll ds ≤ 1048576)
def OpenSpec.upto (s : _root_.Go.ChangeSpec) : _root_.Go.OpenSpec := { _root_.Go.OpenSpec.ofChange s with cond := some uptoSmall }

/-- 'laws.FnExactPlanSync', WHERE WHAT IT READS IS OF BULK AT MOST 1048576: true; the input reads as it did. -/
def fnExactPlanSyncUptoRow : OpenClaim := { program := "ythhnmdemmogjaaa", sum := "3ebff888d665f0d90681c7474efc18b1776340c674b8d017732926dfa3574101", func := "loop.example/g00541/laws.FnExactPlanSync", spec := "fnExactPlanSync", unfollowed := true, recurses := true, apart := false, narrowed := true }
def FnExactPlanSyncUptoSaid : Prop := fnExactPlanSyncUptoRow.holds Try.pinned (OpenSpec.upto fnExactPlanSyncSpec)

/-- 'laws.FnCommon', WHERE WHAT IT READS IS OF BULK AT MOST 1048576: true; the input reads as it did. -/
def fnCommonUptoRow : OpenClaim := { program := "ythhnmdemmogjaaa", sum := "3ebff888d665f0d90681c7474efc18b1776340c674b8d017732926dfa3574101", func := "loop.example/g00541/laws.FnCommon", spec := "fnCommon", unfollowed := true, recurses := true, apart := false, narrowed := true }
def FnCommonUptoSaid : Prop := fnCommonUptoRow.holds Try.pinned (OpenSpec.upto fnCommonSpec)

/-- 'laws.FnExactNewMirror', WHERE WHAT IT READS IS OF BULK AT MOST 1048576: true; the input reads as it did. -/
def fnExactNewMirrorUptoRow : OpenClaim := { program := "ythhnmdemmogjaaa", sum := "3ebff888d665f0d90681c7474efc18b1776340c674b8d017732926dfa3574101", func := "loop.example/g00541/laws.FnExactNewMirror", spec := "fnExactNewMirror", apart := false, narrowed := true }
def FnExactNewMirrorUptoSaid : Prop := fnExactNewMirrorUptoRow.holds Try.pinned (OpenSpec.upto fnExactNewMirrorSpec)

/-- 'laws.FnExactSameAt', WHERE WHAT IT READS IS OF BULK AT MOST 1048576: true; the input reads as it did. -/
def fnExactSameAtUptoRow : OpenClaim := { program := "ythhnmdemmogjaaa", sum := "3ebff888d665f0d90681c7474efc18b1776340c674b8d017732926dfa3574101", func := "loop.example/g00541/laws.FnExactSameAt", spec := "fnExactSameAt", unfollowed := true, recurses := true, apart := false, narrowed := true }
def FnExactSameAtUptoSaid : Prop := fnExactSameAtUptoRow.holds Try.pinned (OpenSpec.upto fnExactSameAtSpec)

/-- 'laws.FnExactLastBlocks', WHERE WHAT IT READS IS OF BULK AT MOST 1048576: true; the input reads as it did. -/
def fnExactLastBlocksUptoRow : OpenClaim := { program := "ythhnmdemmogjaaa", sum := "3ebff888d665f0d90681c7474efc18b1776340c674b8d017732926dfa3574101", func := "loop.example/g00541/laws.FnExactLastBlocks", spec := "fnExactLastBlocks", unfollowed := true, recurses := true, apart := false, narrowed := true }
def FnExactLastBlocksUptoSaid : Prop := fnExactLastBlocksUptoRow.holds Try.pinned (OpenSpec.upto fnExactLastBlocksSpec)

/-- 'laws.FnExactCommonMark', WHERE WHAT IT READS IS OF BULK AT MOST 1048576: true; the input reads as it did. -/
def fnExactCommonMarkUptoRow : OpenClaim := { program := "ythhnmdemmogjaaa", sum := "3ebff888d665f0d90681c7474efc18b1776340c674b8d017732926dfa3574101", func := "loop.example/g00541/laws.FnExactCommonMark", spec := "fnExactCommonMark", unfollowed := true, recurses := true, apart := false, narrowed := true }
def FnExactCommonMarkUptoSaid : Prop := fnExactCommonMarkUptoRow.holds Try.pinned (OpenSpec.upto fnExactCommonMarkSpec)

/-- 'laws.FnExactDirtyIn', WHERE WHAT IT READS IS OF BULK AT MOST 1048576: true; the input reads as it did. -/
def fnExactDirtyInUptoRow : OpenClaim := { program := "ythhnmdemmogjaaa", sum := "3ebff888d665f0d90681c7474efc18b1776340c674b8d017732926dfa3574101", func := "loop.example/g00541/laws.FnExactDirtyIn", spec := "fnExactDirtyIn", unfollowed := true, recurses := true, apart := false, narrowed := true }
def FnExactDirtyInUptoSaid : Prop := fnExactDirtyInUptoRow.holds Try.pinned (OpenSpec.upto fnExactDirtyInSpec)

end Rows
end Go.Proofs.Ythhnmdemmogjaaa

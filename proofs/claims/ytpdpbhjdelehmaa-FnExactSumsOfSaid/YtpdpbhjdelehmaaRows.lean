/-
  No cell of these rows narrows 'for every input' (looked for: loops, veiled, ifaces, maps, wideKeys, modest, calm, conditions, laid).
  DERIVED. THE GIVEN ROWS OF THIS SEAT. 9 by the template 'for every input the law returns true; each argument reads behind the call as it read before'; 0 by the template 'total and deterministic' (their statements: YtpdpbhjdelehmaaTotals.lean).
  GIVEN WITH THE SEED: the statements are not yours to turn. If you find one false, say at which input.
  Laid BY PROGRAM, IN A SANDBOX (cutbox-rows.mjs): the forced cells as the released guide's own fill.sh prints them over the translation a49ac0122ce05d8a… (all of the seat's roots in one cut). By AI agents, Wed Nov 11 2026. No macro, syntax, notation, axiom, sorry.
-/
import Derived.Test.YtpdpbhjdelehmaaChecked
import GoSem.Claim
import GoSem.ClaimJoined
import GoSem.ClaimMapViews
import Derived.JoinedTies
import Derived.KernelRfl
namespace Go.Proofs.Ytpdpbhjdelehmaa
/- THE CELL 'sum', in the pinned program and in every row, IS THE sha256 OF THE DUMP (.gsa) THAT YtpdpbhjdelehmaaProg.lean LOADS. Nothing in Lean hashes anything: it is a label: what it is worth is what the hold of that sum in a sandbox is worth. -/
noncomputable def Try.pinned : Pinned := { name := "ytpdpbhjdelehmaa", sum := "a49ac0122ce05d8a82b8a90b680d303fd5e20a1c0f8341de3a3127957c9f5d36", checked := Try.checked }
namespace Rows
def none {H : Type} : Left H := { results := [], args := [] }

/-- 'laws.FnExactGoodSet': WHATEVER THE INPUT: true; the input reads as it did. -/
def fnExactGoodSetSpec : ChangeSpec := { name := "fnExactGoodSet", fn := fun _ => fun
  | [d] => { results := [.lit (.bool true)], args := [d] }
  | _ => none }
def fnExactGoodSetRow : OpenClaim := { program := "ytpdpbhjdelehmaa", sum := "a49ac0122ce05d8a82b8a90b680d303fd5e20a1c0f8341de3a3127957c9f5d36", func := "loop.example/g00541/laws.FnExactGoodSet", spec := "fnExactGoodSet", unfollowed := true, recurses := true, apart := false }
def FnExactGoodSetSaid : Prop := fnExactGoodSetRow.holds Try.pinned (OpenSpec.ofChange fnExactGoodSetSpec)

/-- ITS FALSE NEIGHBOUR: 'it returns false'. Refute it at one input. -/
def fnExactGoodSetWrong : ChangeSpec := { name := "fnExactGoodSet", fn := fun _ => fun
  | [d] => { results := [.lit (.bool false)], args := [d] }
  | _ => none }
def FnExactGoodSetWrongFalsely : Prop := fnExactGoodSetRow.holds Try.pinned (OpenSpec.ofChange fnExactGoodSetWrong)

/-- 'laws.FnExactIsMajority': WHATEVER THE INPUT: true; the input reads as it did. -/
def fnExactIsMajoritySpec : ChangeSpec := { name := "fnExactIsMajority", fn := fun _ => fun
  | [d1, d2] => { results := [.lit (.bool true)], args := [d1, d2] }
  | _ => none }
def fnExactIsMajorityRow : OpenClaim := { program := "ytpdpbhjdelehmaa", sum := "a49ac0122ce05d8a82b8a90b680d303fd5e20a1c0f8341de3a3127957c9f5d36", func := "loop.example/g00541/laws.FnExactIsMajority", spec := "fnExactIsMajority", unfollowed := true, recurses := true, apart := false }
def FnExactIsMajoritySaid : Prop := fnExactIsMajorityRow.holds Try.pinned (OpenSpec.ofChange fnExactIsMajoritySpec)

/-- ITS FALSE NEIGHBOUR: 'it returns false'. Refute it at one input. -/
def fnExactIsMajorityWrong : ChangeSpec := { name := "fnExactIsMajority", fn := fun _ => fun
  | [d1, d2] => { results := [.lit (.bool false)], args := [d1, d2] }
  | _ => none }
def FnExactIsMajorityWrongFalsely : Prop := fnExactIsMajorityRow.holds Try.pinned (OpenSpec.ofChange fnExactIsMajorityWrong)

/-- 'laws.FnExactValueAt': WHATEVER THE INPUT: true; the input reads as it did. -/
def fnExactValueAtSpec : ChangeSpec := { name := "fnExactValueAt", fn := fun _ => fun
  | [d1, d2] => { results := [.lit (.bool true)], args := [d1, d2] }
  | _ => none }
def fnExactValueAtRow : OpenClaim := { program := "ytpdpbhjdelehmaa", sum := "a49ac0122ce05d8a82b8a90b680d303fd5e20a1c0f8341de3a3127957c9f5d36", func := "loop.example/g00541/laws.FnExactValueAt", spec := "fnExactValueAt", unfollowed := true, recurses := true, apart := false }
def FnExactValueAtSaid : Prop := fnExactValueAtRow.holds Try.pinned (OpenSpec.ofChange fnExactValueAtSpec)

/-- ITS FALSE NEIGHBOUR: 'it returns false'. Refute it at one input. -/
def fnExactValueAtWrong : ChangeSpec := { name := "fnExactValueAt", fn := fun _ => fun
  | [d1, d2] => { results := [.lit (.bool false)], args := [d1, d2] }
  | _ => none }
def FnExactValueAtWrongFalsely : Prop := fnExactValueAtRow.holds Try.pinned (OpenSpec.ofChange fnExactValueAtWrong)

/-- 'laws.FnExactSumsOf': WHATEVER THE INPUT: true; the input reads as it did. -/
def fnExactSumsOfSpec : ChangeSpec := { name := "fnExactSumsOf", fn := fun _ => fun
  | [d1, d2] => { results := [.lit (.bool true)], args := [d1, d2] }
  | _ => none }
def fnExactSumsOfRow : OpenClaim := { program := "ytpdpbhjdelehmaa", sum := "a49ac0122ce05d8a82b8a90b680d303fd5e20a1c0f8341de3a3127957c9f5d36", func := "loop.example/g00541/laws.FnExactSumsOf", spec := "fnExactSumsOf", unfollowed := true, recurses := true, apart := false }
def FnExactSumsOfSaid : Prop := fnExactSumsOfRow.holds Try.pinned (OpenSpec.ofChange fnExactSumsOfSpec)

/-- ITS FALSE NEIGHBOUR: 'it returns false'. Refute it at one input. -/
def fnExactSumsOfWrong : ChangeSpec := { name := "fnExactSumsOf", fn := fun _ => fun
  | [d1, d2] => { results := [.lit (.bool false)], args := [d1, d2] }
  | _ => none }
def FnExactSumsOfWrongFalsely : Prop := fnExactSumsOfRow.holds Try.pinned (OpenSpec.ofChange fnExactSumsOfWrong)

/-- 'laws.FnExactLessSums': WHATEVER THE INPUT: true; the input reads as it did. -/
def fnExactLessSumsSpec : ChangeSpec := { name := "fnExactLessSums", fn := fun _ => fun
  | [d1, d2] => { results := [.lit (.bool true)], args := [d1, d2] }
  | _ => none }
def fnExactLessSumsRow : OpenClaim := { program := "ytpdpbhjdelehmaa", sum := "a49ac0122ce05d8a82b8a90b680d303fd5e20a1c0f8341de3a3127957c9f5d36", func := "loop.example/g00541/laws.FnExactLessSums", spec := "fnExactLessSums", unfollowed := true, recurses := true, apart := false }
def FnExactLessSumsSaid : Prop := fnExactLessSumsRow.holds Try.pinned (OpenSpec.ofChange fnExactLessSumsSpec)

/-- ITS FALSE NEIGHBOUR: 'it returns false'. Refute it at one input. -/
def fnExactLessSumsWrong : ChangeSpec := { name := "fnExactLessSums", fn := fun _ => fun
  | [d1, d2] => { results := [.lit (.bool false)], args := [d1, d2] }
  | _ => none }
def FnExactLessSumsWrongFalsely : Prop := fnExactLessSumsRow.holds Try.pinned (OpenSpec.ofChange fnExactLessSumsWrong)

/-- 'laws.FnExactPowerSums': WHATEVER THE INPUT: true; the input reads as it did. -/
def fnExactPowerSumsSpec : ChangeSpec := { name := "fnExactPowerSums", fn := fun _ => fun
  | [d1, d2] => { results := [.lit (.bool true)], args := [d1, d2] }
  | _ => none }
def fnExactPowerSumsRow : OpenClaim := { program := "ytpdpbhjdelehmaa", sum := "a49ac0122ce05d8a82b8a90b680d303fd5e20a1c0f8341de3a3127957c9f5d36", func := "loop.example/g00541/laws.FnExactPowerSums", spec := "fnExactPowerSums", unfollowed := true, recurses := true, apart := false }
def FnExactPowerSumsSaid : Prop := fnExactPowerSumsRow.holds Try.pinned (OpenSpec.ofChange fnExactPowerSumsSpec)

/-- ITS FALSE NEIGHBOUR: 'it returns false'. Refute it at one input. -/
def fnExactPowerSumsWrong : ChangeSpec := { name := "fnExactPowerSums", fn := fun _ => fun
  | [d1, d2] => { results := [.lit (.bool false)], args := [d1, d2] }
  | _ => none }
def FnExactPowerSumsWrongFalsely : Prop := fnExactPowerSumsRow.holds Try.pinned (OpenSpec.ofChange fnExactPowerSumsWrong)

/-- 'laws.FnExactRootsOf': WHATEVER THE INPUT: true; the input reads as it did. -/
def fnExactRootsOfSpec : ChangeSpec := { name := "fnExactRootsOf", fn := fun _ => fun
  | [d] => { results := [.lit (.bool true)], args := [d] }
  | _ => none }
def fnExactRootsOfRow : OpenClaim := { program := "ytpdpbhjdelehmaa", sum := "a49ac0122ce05d8a82b8a90b680d303fd5e20a1c0f8341de3a3127957c9f5d36", func := "loop.example/g00541/laws.FnExactRootsOf", spec := "fnExactRootsOf", unfollowed := true, recurses := true, apart := false }
def FnExactRootsOfSaid : Prop := fnExactRootsOfRow.holds Try.pinned (OpenSpec.ofChange fnExactRootsOfSpec)

/-- ITS FALSE NEIGHBOUR: 'it returns false'. Refute it at one input. -/
def fnExactRootsOfWrong : ChangeSpec := { name := "fnExactRootsOf", fn := fun _ => fun
  | [d] => { results := [.lit (.bool false)], args := [d] }
  | _ => none }
def FnExactRootsOfWrongFalsely : Prop := fnExactRootsOfRow.holds Try.pinned (OpenSpec.ofChange fnExactRootsOfWrong)

/-- 'laws.FnExactNewFence': WHATEVER THE INPUT: true; the input reads as it did. -/
def fnExactNewFenceSpec : ChangeSpec := { name := "fnExactNewFence", fn := fun _ => fun
  | [d] => { results := [.lit (.bool true)], args := [d] }
  | _ => none }
def fnExactNewFenceRow : OpenClaim := { program := "ytpdpbhjdelehmaa", sum := "a49ac0122ce05d8a82b8a90b680d303fd5e20a1c0f8341de3a3127957c9f5d36", func := "loop.example/g00541/laws.FnExactNewFence", spec := "fnExactNewFence", apart := false }
def FnExactNewFenceSaid : Prop := fnExactNewFenceRow.holds Try.pinned (OpenSpec.ofChange fnExactNewFenceSpec)

/-- ITS FALSE NEIGHBOUR: 'it returns false'. Refute it at one input. -/
def fnExactNewFenceWrong : ChangeSpec := { name := "fnExactNewFence", fn := fun _ => fun
  | [d] => { results := [.lit (.bool false)], args := [d] }
  | _ => none }
def FnExactNewFenceWrongFalsely : Prop := fnExactNewFenceRow.holds Try.pinned (OpenSpec.ofChange fnExactNewFenceWrong)

/-- 'laws.FnLacked': WHATEVER THE INPUT: true; the input reads as it did. -/
def fnLackedSpec : ChangeSpec := { name := "fnLacked", fn := fun _ => fun
  | [d1, d2] => { results := [.lit (.bool true)], args := [d1, d2] }
  | _ => none }
def fnLackedRow : OpenClaim := { program := "ytpdpbhjdelehmaa", sum := "a49ac0122ce05d8a82b8a90b680d303fd5e20a1c0f8341de3a3127957c9f5d36", func := "loop.example/g00541/laws.FnLacked", spec := "fnLacked", unfollowed := true, recurses := true, apart := false }
def FnLackedSaid : Prop := fnLackedRow.holds Try.pinned (OpenSpec.ofChange fnLackedSpec)

/-- ITS FALSE NEIGHBOUR: 'it returns false'. Refute it at one input. -/
def fnLackedWrong : ChangeSpec := { name := "fnLacked", fn := fun _ => fun
  | [d1, d2] => { results := [.lit (.bool false)], args := [d1, d2] }
  | _ => none }
def FnLackedWrongFalsely : Prop := fnLackedRow.holds Try.pinned (OpenSpec.ofChange fnLackedWrong)

/- THE SECOND FORM. 'bulk': how many values and letters a reading holds, each counted each time it is reached (what is shared counts as often as it is met; a slice's spare places count too). A statement '..UptoSaid' is the law's where the arguments, and the package variables that the reading takes, are together of bulk at most 1048576: NARROWER than '..Said'. Prove '..Said' where nothing that the law and all that it calls make is longer than what came in: it says more and counts as full. Else prove '..UptoSaid'. A law counts once. -/
mutual
def uptoBulk {H : Type} : DataW H → Nat
  | .lit (.string bytes) => bytes.length + 1
  | .lit _ => 1
  | .nil => 1
  | .ptr d => uptoBulk d + 1
  | .slice elems spare => uptoBulkAll elems + uptoBulkAll spare + 1
  | .agg parts => uptoBulkAll parts + 1
  | .iface _ d => uptoBulk d + 1
  | .map entries => uptoBulkEntries entries + 1
  | .held _ => 1
def uptoBulkAll {H : Type} : List (DataW H) → Nat
  | [] => 0
  | d :: r => uptoBulk d + uptoBulkAll r
def uptoBulkEntries {H : Type} : List (Lit × DataW H) → Nat
  | [] => 0
  | x :: r => uptoBulkEntry x + uptoBulkEntries r
def uptoBulkEntry {H : Type} : Lit × DataW H → Nat
  | (.string bytes, d) => bytes.length + uptoBulk d + 1
  | (_, d) => uptoBulk d + 1
 end
def uptoSmall : (H : Type) → List (DataW H) → Bool := fun _ ds => decide (uptoBulkAll ds ≤ 1048576)
def OpenSpec.upto (s : _root_.Go.ChangeSpec) : _root_.Go.OpenSpec := { _root_.Go.OpenSpec.ofChange s with cond := some uptoSmall }

/-- 'laws.FnExactGoodSet', WHERE WHAT IT READS IS OF BULK AT MOST 1048576: true; the input reads as it did. -/
def fnExactGoodSetUptoRow : OpenClaim := { program := "ytpdpbhjdelehmaa", sum := "a49ac0122ce05d8a82b8a90b680d303fd5e20a1c0f8341de3a3127957c9f5d36", func := "loop.example/g00541/laws.FnExactGoodSet", spec := "fnExactGoodSet", unfollowed := true, recurses := true, apart := false, narrowed := true }
def FnExactGoodSetUptoSaid : Prop := fnExactGoodSetUptoRow.holds Try.pinned (OpenSpec.upto fnExactGoodSetSpec)

/-- 'laws.FnExactIsMajority', WHERE WHAT IT READS IS OF BULK AT MOST 1048576: true; the input reads as it did. -/
def fnExactIsMajorityUptoRow : OpenClaim := { program := "ytpdpbhjdelehmaa", sum := "a49ac0122ce05d8a82b8a90b680d303fd5e20a1c0f8341de3a3127957c9f5d36", func := "loop.example/g00541/laws.FnExactIsMajority", spec := "fnExactIsMajority", unfollowed := true, recurses := true, apart := false, narrowed := true }
def FnExactIsMajorityUptoSaid : Prop := fnExactIsMajorityUptoRow.holds Try.pinned (OpenSpec.upto fnExactIsMajoritySpec)

/-- 'laws.FnExactValueAt', WHERE WHAT IT READS IS OF BULK AT MOST 1048576: true; the input reads as it did. -/
def fnExactValueAtUptoRow : OpenClaim := { program := "ytpdpbhjdelehmaa", sum := "a49ac0122ce05d8a82b8a90b680d303fd5e20a1c0f8341de3a3127957c9f5d36", func := "loop.example/g00541/laws.FnExactValueAt", spec := "fnExactValueAt", unfollowed := true, recurses := true, apart := false, narrowed := true }
def FnExactValueAtUptoSaid : Prop := fnExactValueAtUptoRow.holds Try.pinned (OpenSpec.upto fnExactValueAtSpec)

/-- 'laws.FnExactSumsOf', WHERE WHAT IT READS IS OF BULK AT MOST 1048576: true; the input reads as it did. -/
def fnExactSumsOfUptoRow : OpenClaim := { program := "ytpdpbhjdelehmaa", sum := "a49ac0122ce05d8a82b8a90b680d303fd5e20a1c0f8341de3a3127957c9f5d36", func := "loop.example/g00541/laws.FnExactSumsOf", spec := "fnExactSumsOf", unfollowed := true, recurses := true, apart := false, narrowed := true }
def FnExactSumsOfUptoSaid : Prop := fnExactSumsOfUptoRow.holds Try.pinned (OpenSpec.upto fnExactSumsOfSpec)

/-- 'laws.FnExactLessSums', WHERE WHAT IT READS IS OF BULK AT MOST 1048576: true; the input reads as it did. -/
def fnExactLessSumsUptoRow : OpenClaim := { program := "ytpdpbhjdelehmaa", sum := "a49ac0122ce05d8a82b8a90b680d303fd5e20a1c0f8341de3a3127957c9f5d36", func := "loop.example/g00541/laws.FnExactLessSums", spec := "fnExactLessSums", unfollowed := true, recurses := true, apart := false, narrowed := true }
def FnExactLessSumsUptoSaid : Prop := fnExactLessSumsUptoRow.holds Try.pinned (OpenSpec.upto fnExactLessSumsSpec)

/-- 'laws.FnExactPowerSums', WHERE WHAT IT READS IS OF BULK AT MOST 1048576: true; the input reads as it did. -/
def fnExactPowerSumsUptoRow : OpenClaim := { program := "ytpdpbhjdelehmaa", sum := "a49ac0122ce05d8a82b8a90b680d303fd5e20a1c0f8341de3a3127957c9f5d36", func := "loop.example/g00541/laws.FnExactPowerSums", spec := "fnExactPowerSums", unfollowed := true, recurses := true, apart := false, narrowed := true }
def FnExactPowerSumsUptoSaid : Prop := fnExactPowerSumsUptoRow.holds Try.pinned (OpenSpec.upto fnExactPowerSumsSpec)

/-- 'laws.FnExactRootsOf', WHERE WHAT IT READS IS OF BULK AT MOST 1048576: true; the input reads as it did. -/
def fnExactRootsOfUptoRow : OpenClaim := { program := "ytpdpbhjdelehmaa", sum := "a49ac0122ce05d8a82b8a90b680d303fd5e20a1c0f8341de3a3127957c9f5d36", func := "loop.example/g00541/laws.FnExactRootsOf", spec := "fnExactRootsOf", unfollowed := true, recurses := true, apart := false, narrowed := true }
def FnExactRootsOfUptoSaid : Prop := fnExactRootsOfUptoRow.holds Try.pinned (OpenSpec.upto fnExactRootsOfSpec)

/-- 'laws.FnExactNewFence', WHERE WHAT IT READS IS OF BULK AT MOST 1048576: true; the input reads as it did. -/
def fnExactNewFenceUptoRow : OpenClaim := { program := "ytpdpbhjdelehmaa", sum := "a49ac0122ce05d8a82b8a90b680d303fd5e20a1c0f8341de3a3127957c9f5d36", func := "loop.example/g00541/laws.FnExactNewFence", spec := "fnExactNewFence", apart := false, narrowed := true }
def FnExactNewFenceUptoSaid : Prop := fnExactNewFenceUptoRow.holds Try.pinned (OpenSpec.upto fnExactNewFenceSpec)

/-- 'laws.FnLacked', WHERE WHAT IT READS IS OF BULK AT MOST 1048576: true; the input reads as it did. -/
def fnLackedUptoRow : OpenClaim := { program := "ytpdpbhjdelehmaa", sum := "a49ac0122ce05d8a82b8a90b680d303fd5e20a1c0f8341de3a3127957c9f5d36", func := "loop.example/g00541/laws.FnLacked", spec := "fnLacked", unfollowed := true, recurses := true, apart := false, narrowed := true }
def FnLackedUptoSaid : Prop := fnLackedUptoRow.holds Try.pinned (OpenSpec.upto fnLackedSpec)

end Rows
end Go.Proofs.Ytpdpbhjdelehmaa

/-
  No cell of these rows narrows 'for every input' (looked for: loops, veiled, ifaces, maps, wideKeys, modest, calm, conditions, laid).
  DERIVED. THE GIVEN ROWS OF THIS SEAT. 3 by the template 'for every input the law returns true; each argument reads behind the call as it read before'; 0 by the template 'total and deterministic' (their statements: YtmglhpajnhdafaaTotals.lean).
  GIVEN WITH THE SEED: the statements are not yours to turn. If you find one false, say at which input.
  Laid BY PROGRAM, IN A SANDBOX (cutbox-rows.mjs): the forced cells as the released guide's own fill.sh prints them over the translation 8955fb5591832134… (all of the seat's roots in one cut). By AI agents, Wed Nov 11 2026. No macro, syntax, notation, axiom, sorry.
-/
import Derived.Test.YtmglhpajnhdafaaChecked
import GoSem.Claim
import GoSem.ClaimJoined
import GoSem.ClaimMapViews
import Derived.JoinedTies
import Derived.KernelRfl
namespace Go.Proofs.Ytmglhpajnhdafaa
/- THE CELL 'sum', in the pinned program and in every row, IS THE sha256 OF THE DUMP (.gsa) THAT YtmglhpajnhdafaaProg.lean LOADS. Nothing in Lean hashes anything: it is a label: what it is worth is what the hold of that sum in a sandbox is worth. -/
noncomputable def Try.pinned : Pinned := { name := "ytmglhpajnhdafaa", sum := "8955fb55918321346ccd53546eedff341afcca6282b9f5b623a12596d2cb8282", checked := Try.checked }
namespace Rows
def none {H : Type} : Left H := { results := [], args := [] }

/-- 'laws.FnExactReduceMasks': WHATEVER THE INPUT: true; the input reads as it did. -/
def fnExactReduceMasksSpec : ChangeSpec := { name := "fnExactReduceMasks", fn := fun _ => fun
  | [d1, d2] => { results := [.lit (.bool true)], args := [d1, d2] }
  | _ => none }
def fnExactReduceMasksRow : OpenClaim := { program := "ytmglhpajnhdafaa", sum := "8955fb55918321346ccd53546eedff341afcca6282b9f5b623a12596d2cb8282", func := "loop.example/g00541/laws.FnExactReduceMasks", spec := "fnExactReduceMasks", unfollowed := true, recurses := true, apart := false }
def FnExactReduceMasksSaid : Prop := fnExactReduceMasksRow.holds Try.pinned (OpenSpec.ofChange fnExactReduceMasksSpec)

/-- ITS FALSE NEIGHBOUR: 'it returns false'. Refute it at one input. -/
def fnExactReduceMasksWrong : ChangeSpec := { name := "fnExactReduceMasks", fn := fun _ => fun
  | [d1, d2] => { results := [.lit (.bool false)], args := [d1, d2] }
  | _ => none }
def FnExactReduceMasksWrongFalsely : Prop := fnExactReduceMasksRow.holds Try.pinned (OpenSpec.ofChange fnExactReduceMasksWrong)

/-- 'laws.FnExactPacketOf': WHATEVER THE INPUT: true; the input reads as it did. -/
def fnExactPacketOfSpec : ChangeSpec := { name := "fnExactPacketOf", fn := fun _ => fun
  | [d1, d2] => { results := [.lit (.bool true)], args := [d1, d2] }
  | _ => none }
def fnExactPacketOfRow : OpenClaim := { program := "ytmglhpajnhdafaa", sum := "8955fb55918321346ccd53546eedff341afcca6282b9f5b623a12596d2cb8282", func := "loop.example/g00541/laws.FnExactPacketOf", spec := "fnExactPacketOf", inPlace := ["internal/abi.NoEscape", "internal/bytealg.MakeNoZero"], unfollowed := true, recurses := true, apart := false }
def FnExactPacketOfSaid : Prop := fnExactPacketOfRow.holds Try.pinned (OpenSpec.ofChange fnExactPacketOfSpec)

/-- ITS FALSE NEIGHBOUR: 'it returns false'. Refute it at one input. -/
def fnExactPacketOfWrong : ChangeSpec := { name := "fnExactPacketOf", fn := fun _ => fun
  | [d1, d2] => { results := [.lit (.bool false)], args := [d1, d2] }
  | _ => none }
def FnExactPacketOfWrongFalsely : Prop := fnExactPacketOfRow.holds Try.pinned (OpenSpec.ofChange fnExactPacketOfWrong)

/-- 'laws.FnRank': WHATEVER THE INPUT: true; the input reads as it did. -/
def fnRankSpec : ChangeSpec := { name := "fnRank", fn := fun _ => fun
  | [d1, d2] => { results := [.lit (.bool true)], args := [d1, d2] }
  | _ => none }
def fnRankRow : OpenClaim := { program := "ytmglhpajnhdafaa", sum := "8955fb55918321346ccd53546eedff341afcca6282b9f5b623a12596d2cb8282", func := "loop.example/g00541/laws.FnRank", spec := "fnRank", unfollowed := true, recurses := true, apart := false }
def FnRankSaid : Prop := fnRankRow.holds Try.pinned (OpenSpec.ofChange fnRankSpec)

/-- ITS FALSE NEIGHBOUR: 'it returns false'. Refute it at one input. -/
def fnRankWrong : ChangeSpec := { name := "fnRank", fn := fun _ => fun
  | [d1, d2] => { results := [.lit (.bool false)], args := [d1, d2] }
  | _ => none }
def FnRankWrongFalsely : Prop := fnRankRow.holds Try.pinned (OpenSpec.ofChange fnRankWrong)

/- THE SECOND FORM. 'bulk': how many values and letters a reading holds, each counted each time it is reached (what is shared counts as often as it is met; a slice's spare places count too). A statement '..UptoSaid' is the law's where the arguments, and the package variables that the reading takes, are together of bulk at most 1048576: NARROWER than '..Said'. Prove '..Said' where nothing that the law and all that it calls make is longer than what came in: it says more and counts as full. Else prove '..UptoSaid'. A law counts once. -/
mutual
def uptoBulk {H : Type} : DataW H → Nat
  | .lit (.string bytes) => bytes.length + 1
  | .lit _ => 1
  | .nil => 1
  | .ptr d => uptoBulk d + 1
  | .slice elems spare => uptoBulkAll elems + uptoBulkAll spare + 1
  | .agg parts => uptoBulkAll parts + 1
  | .iface _ d => uptoBulk d + 1
  | .map entries => uptoBulkEntries entries + 1
  | .held _ => 1
def uptoBulkAll {H : Type} : List (DataW H) → Nat
  | [] => 0
  | d :: r => uptoBulk d + uptoBulkAll r
def uptoBulkEntries {H : Type} : List (Lit × DataW H) → Nat
  | [] => 0
  | x :: r => uptoBulkEntry x + uptoBulkEntries r
def uptoBulkEntry {H : Type} : Lit × DataW H → Nat
  | (.string bytes, d) => bytes.length + uptoBulk d + 1
  | (_, d) => uptoBulk d + 1
 end
def uptoSmall : (H : Type) → List (DataW H) → Bool := fun _ ds => decide (uptoBulkAll ds ≤ 1048576)
def OpenSpec.upto (s : _root_.Go.ChangeSpec) : _root_.Go.OpenSpec := { _root_.Go.OpenSpec.ofChange s with cond := some uptoSmall }

/-- 'laws.FnExactReduceMasks', WHERE WHAT IT READS IS OF BULK AT MOST 1048576: true; the input reads as it did. -/
def fnExactReduceMasksUptoRow : OpenClaim := { program := "ytmglhpajnhdafaa", sum := "8955fb55918321346ccd53546eedff341afcca6282b9f5b623a12596d2cb8282", func := "loop.example/g00541/laws.FnExactReduceMasks", spec := "fnExactReduceMasks", unfollowed := true, recurses := true, apart := false, narrowed := true }
def FnExactReduceMasksUptoSaid : Prop := fnExactReduceMasksUptoRow.holds Try.pinned (OpenSpec.upto fnExactReduceMasksSpec)

/-- 'laws.FnExactPacketOf', WHERE WHAT IT READS IS OF BULK AT MOST 1048576: true; the input reads as it did. -/
def fnExactPacketOfUptoRow : OpenClaim := { program := "ytmglhpajnhdafaa", sum := "8955fb55918321346ccd53546eedff341afcca6282b9f5b623a12596d2cb8282", func := "loop.example/g00541/laws.FnExactPacketOf", spec := "fnExactPacketOf", inPlace := ["internal/abi.NoEscape", "internal/bytealg.MakeNoZero"], unfollowed := true, recurses := true, apart := false, narrowed := true }
def FnExactPacketOfUptoSaid : Prop := fnExactPacketOfUptoRow.holds Try.pinned (OpenSpec.upto fnExactPacketOfSpec)

/-- 'laws.FnRank', WHERE WHAT IT READS IS OF BULK AT MOST 1048576: true; the input reads as it did. -/
def fnRankUptoRow : OpenClaim := { program := "ytmglhpajnhdafaa", sum := "8955fb55918321346ccd53546eedff341afcca6282b9f5b623a12596d2cb8282", func := "loop.example/g00541/laws.FnRank", spec := "fnRank", unfollowed := true, recurses := true, apart := false, narrowed := true }
def FnRankUptoSaid : Prop := fnRankUptoRow.holds Try.pinned (OpenSpec.upto fnRankSpec)

end Rows
end Go.Proofs.Ytmglhpajnhdafaa

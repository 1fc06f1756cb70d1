/-
  No cell of these rows narrows 'for every input' (looked for: loops, veiled, ifaces, maps, wideKeys, modest, calm, conditions, laid).
  DERIVED. THE GIVEN ROWS OF THIS SEAT. 7 by the template 'for every input the law returns true; each argument reads behind the call as it read before'; 0 by the template 'total and deterministic' (their statements: YtncckighbgbboaaTotals.lean).
  GIVEN WITH THE SEED: the statements are not yours to turn. If you find one false, say at which input.
  Laid BY PROGRAM, IN A SANDBOX (cutbox-rows.mjs): the forced cells as the released guide's own fill.sh prints them over the translation 344f50e4b387225d… (all of the seat's roots in one cut). By AI agents, Wed Nov 11 2026. No macro, syntax, notation, axiom, sorry.
-/
import Derived.Test.YtncckighbgbboaaChecked
import GoSem.Claim
import GoSem.ClaimJoined
import GoSem.ClaimMapViews
import Derived.JoinedTies
import Derived.KernelRfl
namespace Go.Proofs.Ytncckighbgbboaa
/- THE CELL 'sum', in the pinned program and in every row, IS THE sha256 OF THE DUMP (.gsa) THAT YtncckighbgbboaaProg.lean LOADS. Nothing in Lean hashes anything: it is a label: what it is worth is what the hold of that sum in a sandbox is worth. -/
noncomputable def Try.pinned : Pinned := { name := "ytncckighbgbboaa", sum := "344f50e4b387225d33f208ac214c8d85cd41a2a651e841abe6924c1a6d613402", checked := Try.checked }
namespace Rows
def none {H : Type} : Left H := { results := [], args := [] }

/-- 'laws.FnExactNewWorks': WHATEVER THE INPUT: true; the input reads as it did. -/
def fnExactNewWorksSpec : ChangeSpec := { name := "fnExactNewWorks", fn := fun _ => fun
  | [] => { results := [.lit (.bool true)], args := [] }
  | _ => none }
def fnExactNewWorksRow : OpenClaim := { program := "ytncckighbgbboaa", sum := "344f50e4b387225d33f208ac214c8d85cd41a2a651e841abe6924c1a6d613402", func := "loop.example/g00541/laws.FnExactNewWorks", spec := "fnExactNewWorks", apart := false }
def FnExactNewWorksSaid : Prop := fnExactNewWorksRow.holds Try.pinned (OpenSpec.ofChange fnExactNewWorksSpec)

/-- ITS FALSE NEIGHBOUR: 'it returns false'. Refute it at one input. -/
def fnExactNewWorksWrong : ChangeSpec := { name := "fnExactNewWorks", fn := fun _ => fun
  | [] => { results := [.lit (.bool false)], args := [] }
  | _ => none }
def FnExactNewWorksWrongFalsely : Prop := fnExactNewWorksRow.holds Try.pinned (OpenSpec.ofChange fnExactNewWorksWrong)

/-- 'laws.FnExactFinishZone': WHATEVER THE INPUT: true; the input reads as it did. -/
def fnExactFinishZoneSpec : ChangeSpec := { name := "fnExactFinishZone", fn := fun _ => fun
  | [d1, d2] => { results := [.lit (.bool true)], args := [d1, d2] }
  | _ => none }
def fnExactFinishZoneRow : OpenClaim := { program := "ytncckighbgbboaa", sum := "344f50e4b387225d33f208ac214c8d85cd41a2a651e841abe6924c1a6d613402", func := "loop.example/g00541/laws.FnExactFinishZone", spec := "fnExactFinishZone", unfollowed := true, recurses := true, apart := false }
def FnExactFinishZoneSaid : Prop := fnExactFinishZoneRow.holds Try.pinned (OpenSpec.ofChange fnExactFinishZoneSpec)

/-- ITS FALSE NEIGHBOUR: 'it returns false'. Refute it at one input. -/
def fnExactFinishZoneWrong : ChangeSpec := { name := "fnExactFinishZone", fn := fun _ => fun
  | [d1, d2] => { results := [.lit (.bool false)], args := [d1, d2] }
  | _ => none }
def FnExactFinishZoneWrongFalsely : Prop := fnExactFinishZoneRow.holds Try.pinned (OpenSpec.ofChange fnExactFinishZoneWrong)

/-- 'laws.FnExactResetZone': WHATEVER THE INPUT: true; the input reads as it did. -/
def fnExactResetZoneSpec : ChangeSpec := { name := "fnExactResetZone", fn := fun _ => fun
  | [d1, d2] => { results := [.lit (.bool true)], args := [d1, d2] }
  | _ => none }
def fnExactResetZoneRow : OpenClaim := { program := "ytncckighbgbboaa", sum := "344f50e4b387225d33f208ac214c8d85cd41a2a651e841abe6924c1a6d613402", func := "loop.example/g00541/laws.FnExactResetZone", spec := "fnExactResetZone", unfollowed := true, recurses := true, apart := false }
def FnExactResetZoneSaid : Prop := fnExactResetZoneRow.holds Try.pinned (OpenSpec.ofChange fnExactResetZoneSpec)

/-- ITS FALSE NEIGHBOUR: 'it returns false'. Refute it at one input. -/
def fnExactResetZoneWrong : ChangeSpec := { name := "fnExactResetZone", fn := fun _ => fun
  | [d1, d2] => { results := [.lit (.bool false)], args := [d1, d2] }
  | _ => none }
def FnExactResetZoneWrongFalsely : Prop := fnExactResetZoneRow.holds Try.pinned (OpenSpec.ofChange fnExactResetZoneWrong)

/-- 'laws.FnExactGoodWorks': WHATEVER THE INPUT: true; the input reads as it did. -/
def fnExactGoodWorksSpec : ChangeSpec := { name := "fnExactGoodWorks", fn := fun _ => fun
  | [d] => { results := [.lit (.bool true)], args := [d] }
  | _ => none }
def fnExactGoodWorksRow : OpenClaim := { program := "ytncckighbgbboaa", sum := "344f50e4b387225d33f208ac214c8d85cd41a2a651e841abe6924c1a6d613402", func := "loop.example/g00541/laws.FnExactGoodWorks", spec := "fnExactGoodWorks", unfollowed := true, recurses := true, apart := false }
def FnExactGoodWorksSaid : Prop := fnExactGoodWorksRow.holds Try.pinned (OpenSpec.ofChange fnExactGoodWorksSpec)

/-- ITS FALSE NEIGHBOUR: 'it returns false'. Refute it at one input. -/
def fnExactGoodWorksWrong : ChangeSpec := { name := "fnExactGoodWorks", fn := fun _ => fun
  | [d] => { results := [.lit (.bool false)], args := [d] }
  | _ => none }
def FnExactGoodWorksWrongFalsely : Prop := fnExactGoodWorksRow.holds Try.pinned (OpenSpec.ofChange fnExactGoodWorksWrong)

/-- 'laws.FnExactWhoHas': WHATEVER THE INPUT: true; the input reads as it did. -/
def fnExactWhoHasSpec : ChangeSpec := { name := "fnExactWhoHas", fn := fun _ => fun
  | [d1, d2] => { results := [.lit (.bool true)], args := [d1, d2] }
  | _ => none }
def fnExactWhoHasRow : OpenClaim := { program := "ytncckighbgbboaa", sum := "344f50e4b387225d33f208ac214c8d85cd41a2a651e841abe6924c1a6d613402", func := "loop.example/g00541/laws.FnExactWhoHas", spec := "fnExactWhoHas", unfollowed := true, recurses := true, apart := false }
def FnExactWhoHasSaid : Prop := fnExactWhoHasRow.holds Try.pinned (OpenSpec.ofChange fnExactWhoHasSpec)

/-- ITS FALSE NEIGHBOUR: 'it returns false'. Refute it at one input. -/
def fnExactWhoHasWrong : ChangeSpec := { name := "fnExactWhoHas", fn := fun _ => fun
  | [d1, d2] => { results := [.lit (.bool false)], args := [d1, d2] }
  | _ => none }
def FnExactWhoHasWrongFalsely : Prop := fnExactWhoHasRow.holds Try.pinned (OpenSpec.ofChange fnExactWhoHasWrong)

/-- 'laws.FnUnlikeMaps': WHATEVER THE INPUT: true; the input reads as it did. -/
def fnUnlikeMapsSpec : ChangeSpec := { name := "fnUnlikeMaps", fn := fun _ => fun
  | [d1, d2] => { results := [.lit (.bool true)], args := [d1, d2] }
  | _ => none }
def fnUnlikeMapsRow : OpenClaim := { program := "ytncckighbgbboaa", sum := "344f50e4b387225d33f208ac214c8d85cd41a2a651e841abe6924c1a6d613402", func := "loop.example/g00541/laws.FnUnlikeMaps", spec := "fnUnlikeMaps", apart := false }
def FnUnlikeMapsSaid : Prop := fnUnlikeMapsRow.holds Try.pinned (OpenSpec.ofChange fnUnlikeMapsSpec)

/-- ITS FALSE NEIGHBOUR: 'it returns false'. Refute it at one input. -/
def fnUnlikeMapsWrong : ChangeSpec := { name := "fnUnlikeMaps", fn := fun _ => fun
  | [d1, d2] => { results := [.lit (.bool false)], args := [d1, d2] }
  | _ => none }
def FnUnlikeMapsWrongFalsely : Prop := fnUnlikeMapsRow.holds Try.pinned (OpenSpec.ofChange fnUnlikeMapsWrong)

/-- 'laws.FnExactDoneBy': WHATEVER THE INPUT: true; the input reads as it did. -/
def fnExactDoneBySpec : ChangeSpec := { name := "fnExactDoneBy", fn := fun _ => fun
  | [d] => { results := [.lit (.bool true)], args := [d] }
  | _ => none }
def fnExactDoneByRow : OpenClaim := { program := "ytncckighbgbboaa", sum := "344f50e4b387225d33f208ac214c8d85cd41a2a651e841abe6924c1a6d613402", func := "loop.example/g00541/laws.FnExactDoneBy", spec := "fnExactDoneBy", unfollowed := true, recurses := true, apart := false }
def FnExactDoneBySaid : Prop := fnExactDoneByRow.holds Try.pinned (OpenSpec.ofChange fnExactDoneBySpec)

/-- ITS FALSE NEIGHBOUR: 'it returns false'. Refute it at one input. -/
def fnExactDoneByWrong : ChangeSpec := { name := "fnExactDoneBy", fn := fun _ => fun
  | [d] => { results := [.lit (.bool false)], args := [d] }
  | _ => none }
def FnExactDoneByWrongFalsely : Prop := fnExactDoneByRow.holds Try.pinned (OpenSpec.ofChange fnExactDoneByWrong)

/- THE SECOND FORM. 'bulk': how many values and letters a reading holds, each counted each time it is reached (what is shared counts as often as it is met; a slice's spare places count too). A statement '..UptoSaid' is the law's where the arguments, and the package variables that the reading takes, are together of bulk at most 1048576: NARROWER than '..Said'. Prove '..Said' where nothing that the law and all that it calls make is longer than what came in: it says more and counts as full. Else prove '..UptoSaid'. A law counts once. -/
mutual
def uptoBulk {H : Type} : DataW H → Nat
  | .lit (.string bytes) => bytes.length + 1
  | .lit _ => 1
  | .nil => 1
  | .ptr d => uptoBulk d + 1
  | .slice elems spare => uptoBulkAll elems + uptoBulkAll spare + 1
  | .agg parts => uptoBulkAll parts + 1
  | .iface _ d => uptoBulk d + 1
  | .map entries => uptoBulkEntries entries + 1
  | .held _ => 1
def uptoBulkAll {H : Type} : List (DataW H) → Nat
  | [] => 0
  | d :: r => uptoBulk d + uptoBulkAll r
def uptoBulkEntries {H : Type} : List (Lit × DataW H) → Nat
  | [] => 0
  | x :: r => uptoBulkEntry x + uptoBulkEntries r
def uptoBulkEntry {H : Type} : Lit × DataW H → Nat
  | (.string bytes, d) => bytes.length + uptoBulk d + 1
  | (_, d) => uptoBulk d + 1
 end
def uptoSmall : (H : Type) → List (DataW H) → Bool := fun _ ds => decide (uptoBulkAll ds ≤ 1048576)
def OpenSpec.upto (s : _root_.Go.ChangeSpec) : _root_.Go.OpenSpec := { _root_.Go.OpenSpec.ofChange s with cond := some uptoSmall }

/-- 'laws.FnExactNewWorks', WHERE WHAT IT READS IS OF BULK AT MOST 1048576: true; the input reads as it did. -/
def fnExactNewWorksUptoRow : OpenClaim := { program := "ytncckighbgbboaa", sum := "344f50e4b387225d33f208ac214c8d85cd41a2a651e841abe6924c1a6d613402", func := "loop.example/g00541/laws.FnExactNewWorks", spec := "fnExactNewWorks", apart := false, narrowed := true }
def FnExactNewWorksUptoSaid : Prop := fnExactNewWorksUptoRow.holds Try.pinned (OpenSpec.upto fnExactNewWorksSpec)

/-- 'laws.FnExactFinishZone', WHERE WHAT IT READS IS OF BULK AT MOST 1048576: true; the input reads as it did. -/
def fnExactFinishZoneUptoRow : OpenClaim := { program := "ytncckighbgbboaa", sum := "344f50e4b387225d33f208ac214c8d85cd41a2a651e841abe6924c1a6d613402", func := "loop.example/g00541/laws.FnExactFinishZone", spec := "fnExactFinishZone", unfollowed := true, recurses := true, apart := false, narrowed := true }
def FnExactFinishZoneUptoSaid : Prop := fnExactFinishZoneUptoRow.holds Try.pinned (OpenSpec.upto fnExactFinishZoneSpec)

/-- 'laws.FnExactResetZone', WHERE WHAT IT READS IS OF BULK AT MOST 1048576: true; the input reads as it did. -/
def fnExactResetZoneUptoRow : OpenClaim := { program := "ytncckighbgbboaa", sum := "344f50e4b387225d33f208ac214c8d85cd41a2a651e841abe6924c1a6d613402", func := "loop.example/g00541/laws.FnExactResetZone", spec := "fnExactResetZone", unfollowed := true, recurses := true, apart := false, narrowed := true }
def FnExactResetZoneUptoSaid : Prop := fnExactResetZoneUptoRow.holds Try.pinned (OpenSpec.upto fnExactResetZoneSpec)

/-- 'laws.FnExactGoodWorks', WHERE WHAT IT READS IS OF BULK AT MOST 1048576: true; the input reads as it did. -/
def fnExactGoodWorksUptoRow : OpenClaim := { program := "ytncckighbgbboaa", sum := "344f50e4b387225d33f208ac214c8d85cd41a2a651e841abe6924c1a6d613402", func := "loop.example/g00541/laws.FnExactGoodWorks", spec := "fnExactGoodWorks", unfollowed := true, recurses := true, apart := false, narrowed := true }
def FnExactGoodWorksUptoSaid : Prop := fnExactGoodWorksUptoRow.holds Try.pinned (OpenSpec.upto fnExactGoodWorksSpec)

/-- 'laws.FnExactWhoHas', WHERE WHAT IT READS IS OF BULK AT MOST 1048576: true; the input reads as it did. -/
def fnExactWhoHasUptoRow : OpenClaim := { program := "ytncckighbgbboaa", sum := "344f50e4b387225d33f208ac214c8d85cd41a2a651e841abe6924c1a6d613402", func := "loop.example/g00541/laws.FnExactWhoHas", spec := "fnExactWhoHas", unfollowed := true, recurses := true, apart := false, narrowed := true }
def FnExactWhoHasUptoSaid : Prop := fnExactWhoHasUptoRow.holds Try.pinned (OpenSpec.upto fnExactWhoHasSpec)

/-- 'laws.FnUnlikeMaps', WHERE WHAT IT READS IS OF BULK AT MOST 1048576: true; the input reads as it did. -/
def fnUnlikeMapsUptoRow : OpenClaim := { program := "ytncckighbgbboaa", sum := "344f50e4b387225d33f208ac214c8d85cd41a2a651e841abe6924c1a6d613402", func := "loop.example/g00541/laws.FnUnlikeMaps", spec := "fnUnlikeMaps", apart := false, narrowed := true }
def FnUnlikeMapsUptoSaid : Prop := fnUnlikeMapsUptoRow.holds Try.pinned (OpenSpec.upto fnUnlikeMapsSpec)

/-- 'laws.FnExactDoneBy', WHERE WHAT IT READS IS OF BULK AT MOST 1048576: true; the input reads as it did. -/
def fnExactDoneByUptoRow : OpenClaim := { program := "ytncckighbgbboaa", sum := "344f50e4b387225d33f208ac214c8d85cd41a2a651e841abe6924c1a6d613402", func := "loop.example/g00541/laws.FnExactDoneBy", spec := "fnExactDoneBy", unfollowed := true, recurses := true, apart := false, narrowed := true }
def FnExactDoneByUptoSaid : Prop := fnExactDoneByUptoRow.holds Try.pinned (OpenSpec.upto fnExactDoneBySpec)

end Rows
end Go.Proofs.Ytncckighbgbboaa

/-
  No cell of these rows narrows 'for every input' (looked for: loops, veiled, ifaces, maps, wideKeys, modest, calm, conditions, laid).
  DERIVED. THE GIVEN ROWS OF THIS SEAT. 7 by the template 'for every input the law returns true; each argument reads behind the call as it read before'; 0 by the template 'total and deterministic' (their statements: YtjpeedbabjaidaaTotals.lean).
  GIVEN WITH THE SEED: the statements are not yours to turn. If you find one false, say at which input.
  Laid BY PROGRAM, IN A SANDBOX (cutbox-rows.mjs): the forced cells as the released guide's own fill.sh prints them over the translation ee56edcd26523f3e… (all of the seat's roots in one cut). By AI agents, Wed Nov 11 2026. No macro, syntax, notation, axiom, sorry.
-/
import Derived.Test.YtjpeedbabjaidaaChecked
import GoSem.Claim
import GoSem.ClaimJoined
import GoSem.ClaimMapViews
import Derived.JoinedTies
import Derived.KernelRfl
namespace Go.Proofs.Ytjpeedbabjaidaa
/- THE CELL 'sum', in the pinned program and in every row, IS THE sha256 OF THE DUMP (.gsa) THAT YtjpeedbabjaidaaProg.lean LOADS. Nothing in Lean hashes anything: it is a label: what it is worth is what the hold of that sum in a sandbox is worth. -/
noncomputable def Try.pinned : Pinned := { name := "ytjpeedbabjaidaa", sum := "ee56edcd26523f3e7e7d5a1cfcab0c3678c41c22eca51e1b3e9e5ef03f5fe1af", checked := Try.checked }
namespace Rows
def none {H : Type} : Left H := { results := [], args := [] }

/-- 'laws.FnExactRecordText': WHATEVER THE INPUT: true; the input reads as it did. -/
def fnExactRecordTextSpec : ChangeSpec := { name := "fnExactRecordText", fn := fun _ => fun
  | [d] => { results := [.lit (.bool true)], args := [d] }
  | _ => none }
def fnExactRecordTextRow : OpenClaim := { program := "ytjpeedbabjaidaa", sum := "ee56edcd26523f3e7e7d5a1cfcab0c3678c41c22eca51e1b3e9e5ef03f5fe1af", func := "loop.example/g00541/laws.FnExactRecordText", spec := "fnExactRecordText", apart := false }
def FnExactRecordTextSaid : Prop := fnExactRecordTextRow.holds Try.pinned (OpenSpec.ofChange fnExactRecordTextSpec)

/-- ITS FALSE NEIGHBOUR: 'it returns false'. Refute it at one input. -/
def fnExactRecordTextWrong : ChangeSpec := { name := "fnExactRecordText", fn := fun _ => fun
  | [d] => { results := [.lit (.bool false)], args := [d] }
  | _ => none }
def FnExactRecordTextWrongFalsely : Prop := fnExactRecordTextRow.holds Try.pinned (OpenSpec.ofChange fnExactRecordTextWrong)

/-- 'laws.FnExactReadRecord': WHATEVER THE INPUT: true; the input reads as it did. -/
def fnExactReadRecordSpec : ChangeSpec := { name := "fnExactReadRecord", fn := fun _ => fun
  | [d1, d2] => { results := [.lit (.bool true)], args := [d1, d2] }
  | _ => none }
def fnExactReadRecordRow : OpenClaim := { program := "ytjpeedbabjaidaa", sum := "ee56edcd26523f3e7e7d5a1cfcab0c3678c41c22eca51e1b3e9e5ef03f5fe1af", func := "loop.example/g00541/laws.FnExactReadRecord", spec := "fnExactReadRecord", apart := false }
def FnExactReadRecordSaid : Prop := fnExactReadRecordRow.holds Try.pinned (OpenSpec.ofChange fnExactReadRecordSpec)

/-- ITS FALSE NEIGHBOUR: 'it returns false'. Refute it at one input. -/
def fnExactReadRecordWrong : ChangeSpec := { name := "fnExactReadRecord", fn := fun _ => fun
  | [d1, d2] => { results := [.lit (.bool false)], args := [d1, d2] }
  | _ => none }
def FnExactReadRecordWrongFalsely : Prop := fnExactReadRecordRow.holds Try.pinned (OpenSpec.ofChange fnExactReadRecordWrong)

/-- 'laws.FnExactTornSegment': WHATEVER THE INPUT: true; the input reads as it did. -/
def fnExactTornSegmentSpec : ChangeSpec := { name := "fnExactTornSegment", fn := fun _ => fun
  | [d1, d2] => { results := [.lit (.bool true)], args := [d1, d2] }
  | _ => none }
def fnExactTornSegmentRow : OpenClaim := { program := "ytjpeedbabjaidaa", sum := "ee56edcd26523f3e7e7d5a1cfcab0c3678c41c22eca51e1b3e9e5ef03f5fe1af", func := "loop.example/g00541/laws.FnExactTornSegment", spec := "fnExactTornSegment", apart := false }
def FnExactTornSegmentSaid : Prop := fnExactTornSegmentRow.holds Try.pinned (OpenSpec.ofChange fnExactTornSegmentSpec)

/-- ITS FALSE NEIGHBOUR: 'it returns false'. Refute it at one input. -/
def fnExactTornSegmentWrong : ChangeSpec := { name := "fnExactTornSegment", fn := fun _ => fun
  | [d1, d2] => { results := [.lit (.bool false)], args := [d1, d2] }
  | _ => none }
def FnExactTornSegmentWrongFalsely : Prop := fnExactTornSegmentRow.holds Try.pinned (OpenSpec.ofChange fnExactTornSegmentWrong)

/-- 'laws.FnExactSegmentText': WHATEVER THE INPUT: true; the input reads as it did. -/
def fnExactSegmentTextSpec : ChangeSpec := { name := "fnExactSegmentText", fn := fun _ => fun
  | [d] => { results := [.lit (.bool true)], args := [d] }
  | _ => none }
def fnExactSegmentTextRow : OpenClaim := { program := "ytjpeedbabjaidaa", sum := "ee56edcd26523f3e7e7d5a1cfcab0c3678c41c22eca51e1b3e9e5ef03f5fe1af", func := "loop.example/g00541/laws.FnExactSegmentText", spec := "fnExactSegmentText", unfollowed := true, recurses := true, apart := false }
def FnExactSegmentTextSaid : Prop := fnExactSegmentTextRow.holds Try.pinned (OpenSpec.ofChange fnExactSegmentTextSpec)

/-- ITS FALSE NEIGHBOUR: 'it returns false'. Refute it at one input. -/
def fnExactSegmentTextWrong : ChangeSpec := { name := "fnExactSegmentText", fn := fun _ => fun
  | [d] => { results := [.lit (.bool false)], args := [d] }
  | _ => none }
def FnExactSegmentTextWrongFalsely : Prop := fnExactSegmentTextRow.holds Try.pinned (OpenSpec.ofChange fnExactSegmentTextWrong)

/-- 'laws.FnExactReadSegment': WHATEVER THE INPUT: true; the input reads as it did. -/
def fnExactReadSegmentSpec : ChangeSpec := { name := "fnExactReadSegment", fn := fun _ => fun
  | [d] => { results := [.lit (.bool true)], args := [d] }
  | _ => none }
def fnExactReadSegmentRow : OpenClaim := { program := "ytjpeedbabjaidaa", sum := "ee56edcd26523f3e7e7d5a1cfcab0c3678c41c22eca51e1b3e9e5ef03f5fe1af", func := "loop.example/g00541/laws.FnExactReadSegment", spec := "fnExactReadSegment", apart := false }
def FnExactReadSegmentSaid : Prop := fnExactReadSegmentRow.holds Try.pinned (OpenSpec.ofChange fnExactReadSegmentSpec)

/-- ITS FALSE NEIGHBOUR: 'it returns false'. Refute it at one input. -/
def fnExactReadSegmentWrong : ChangeSpec := { name := "fnExactReadSegment", fn := fun _ => fun
  | [d] => { results := [.lit (.bool false)], args := [d] }
  | _ => none }
def FnExactReadSegmentWrongFalsely : Prop := fnExactReadSegmentRow.holds Try.pinned (OpenSpec.ofChange fnExactReadSegmentWrong)

/-- 'laws.FnLinear': WHATEVER THE INPUT: true; the input reads as it did. -/
def fnLinearSpec : ChangeSpec := { name := "fnLinear", fn := fun _ => fun
  | [d1, d2] => { results := [.lit (.bool true)], args := [d1, d2] }
  | _ => none }
def fnLinearRow : OpenClaim := { program := "ytjpeedbabjaidaa", sum := "ee56edcd26523f3e7e7d5a1cfcab0c3678c41c22eca51e1b3e9e5ef03f5fe1af", func := "loop.example/g00541/laws.FnLinear", spec := "fnLinear", inPlace := ["internal/abi.NoEscape", "internal/bytealg.MakeNoZero"], apart := false }
def FnLinearSaid : Prop := fnLinearRow.holds Try.pinned (OpenSpec.ofChange fnLinearSpec)

/-- ITS FALSE NEIGHBOUR: 'it returns false'. Refute it at one input. -/
def fnLinearWrong : ChangeSpec := { name := "fnLinear", fn := fun _ => fun
  | [d1, d2] => { results := [.lit (.bool false)], args := [d1, d2] }
  | _ => none }
def FnLinearWrongFalsely : Prop := fnLinearRow.holds Try.pinned (OpenSpec.ofChange fnLinearWrong)

/-- 'laws.FnRecords': WHATEVER THE INPUT: true; the input reads as it did. -/
def fnRecordsSpec : ChangeSpec := { name := "fnRecords", fn := fun _ => fun
  | [d1, d2] => { results := [.lit (.bool true)], args := [d1, d2] }
  | _ => none }
def fnRecordsRow : OpenClaim := { program := "ytjpeedbabjaidaa", sum := "ee56edcd26523f3e7e7d5a1cfcab0c3678c41c22eca51e1b3e9e5ef03f5fe1af", func := "loop.example/g00541/laws.FnRecords", spec := "fnRecords", unfollowed := true, recurses := true, apart := false }
def FnRecordsSaid : Prop := fnRecordsRow.holds Try.pinned (OpenSpec.ofChange fnRecordsSpec)

/-- ITS FALSE NEIGHBOUR: 'it returns false'. Refute it at one input. -/
def fnRecordsWrong : ChangeSpec := { name := "fnRecords", fn := fun _ => fun
  | [d1, d2] => { results := [.lit (.bool false)], args := [d1, d2] }
  | _ => none }
def FnRecordsWrongFalsely : Prop := fnRecordsRow.holds Try.pinned (OpenSpec.ofChange fnRecordsWrong)

/- THE SECOND FORM. 'bulk': how many values and letters a reading holds, each counted each time it is reached (what is shared counts as often as it is met; a slice's spare places count too). A statement '..UptoSaid' is the law's where the arguments, and the package variables that the reading takes, are together of bulk at most 1048576: NARROWER than '..Said'. Prove '..Said' where nothing that the law and all that it calls make is longer than what came in: it says more and counts as full. Else prove '..UptoSaid'. A law counts once. -/
mutual
def uptoBulk {H : Type} : DataW H → Nat
  | .lit (.string bytes) => bytes.length + 1
  | .lit _ => 1
  | .nil => 1
  | .ptr d => uptoBulk d + 1
  | .slice elems spare => uptoBulkAll elems + uptoBulkAll spare + 1
  | .agg parts => uptoBulkAll parts + 1
  | .iface _ d => uptoBulk d + 1
  | .map entries => uptoBulkEntries entries + 1
  | .held _ => 1
def uptoBulkAll {H : Type} : List (DataW H) → Nat
  | [] => 0
  | d :: r => uptoBulk d + uptoBulkAll r
def uptoBulkEntries {H : Type} : List (Lit × DataW H) → Nat
  | [] => 0
  | x :: r => uptoBulkEntry x + uptoBulkEntries r
def uptoBulkEntry {H : Type} : Lit × DataW H → Nat
  | (.string bytes, d) => bytes.length + uptoBulk d + 1
  | (_, d) => uptoBulk d + 1
 end
def uptoSmall : (H : Type) → List (DataW H) → Bool := fun _ ds => decide (uptoBulkAll ds ≤ 1048576)
def OpenSpec.upto (s : _root_.Go.ChangeSpec) : _root_.Go.OpenSpec := { _root_.Go.OpenSpec.ofChange s with cond := some uptoSmall }

/-- 'laws.FnExactRecordText', WHERE WHAT IT READS IS OF BULK AT MOST 1048576: true; the input reads as it did. -/
def fnExactRecordTextUptoRow : OpenClaim := { program := "ytjpeedbabjaidaa", sum := "ee56edcd26523f3e7e7d5a1cfcab0c3678c41c22eca51e1b3e9e5ef03f5fe1af", func := "loop.example/g00541/laws.FnExactRecordText", spec := "fnExactRecordText", apart := false, narrowed := true }
def FnExactRecordTextUptoSaid : Prop := fnExactRecordTextUptoRow.holds Try.pinned (OpenSpec.upto fnExactRecordTextSpec)

/-- 'laws.FnExactReadRecord', WHERE WHAT IT READS IS OF BULK AT MOST 1048576: true; the input reads as it did. -/
def fnExactReadRecordUptoRow : OpenClaim := { program := "ytjpeedbabjaidaa", sum := "ee56edcd26523f3e7e7d5a1cfcab0c3678c41c22eca51e1b3e9e5ef03f5fe1af", func := "loop.example/g00541/laws.FnExactReadRecord", spec := "fnExactReadRecord", apart := false, narrowed := true }
def FnExactReadRecordUptoSaid : Prop := fnExactReadRecordUptoRow.holds Try.pinned (OpenSpec.upto fnExactReadRecordSpec)

/-- 'laws.FnExactTornSegment', WHERE WHAT IT READS IS OF BULK AT MOST 1048576: true; the input reads as it did. -/
def fnExactTornSegmentUptoRow : OpenClaim := { program := "ytjpeedbabjaidaa", sum := "ee56edcd26523f3e7e7d5a1cfcab0c3678c41c22eca51e1b3e9e5ef03f5fe1af", func := "loop.example/g00541/laws.FnExactTornSegment", spec := "fnExactTornSegment", apart := false, narrowed := true }
def FnExactTornSegmentUptoSaid : Prop := fnExactTornSegmentUptoRow.holds Try.pinned (OpenSpec.upto fnExactTornSegmentSpec)

/-- 'laws.FnExactSegmentText', WHERE WHAT IT READS IS OF BULK AT MOST 1048576: true; the input reads as it did. -/
def fnExactSegmentTextUptoRow : OpenClaim := { program := "ytjpeedbabjaidaa", sum := "ee56edcd26523f3e7e7d5a1cfcab0c3678c41c22eca51e1b3e9e5ef03f5fe1af", func := "loop.example/g00541/laws.FnExactSegmentText", spec := "fnExactSegmentText", unfollowed := true, recurses := true, apart := false, narrowed := true }
def FnExactSegmentTextUptoSaid : Prop := fnExactSegmentTextUptoRow.holds Try.pinned (OpenSpec.upto fnExactSegmentTextSpec)

/-- 'laws.FnExactReadSegment', WHERE WHAT IT READS IS OF BULK AT MOST 1048576: true; the input reads as it did. -/
def fnExactReadSegmentUptoRow : OpenClaim := { program := "ytjpeedbabjaidaa", sum := "ee56edcd26523f3e7e7d5a1cfcab0c3678c41c22eca51e1b3e9e5ef03f5fe1af", func := "loop.example/g00541/laws.FnExactReadSegment", spec := "fnExactReadSegment", apart := false, narrowed := true }
def FnExactReadSegmentUptoSaid : Prop := fnExactReadSegmentUptoRow.holds Try.pinned (OpenSpec.upto fnExactReadSegmentSpec)

/-- 'laws.FnLinear', WHERE WHAT IT READS IS OF BULK AT MOST 1048576: true; the input reads as it did. -/
def fnLinearUptoRow : OpenClaim := { program := "ytjpeedbabjaidaa", sum := "ee56edcd26523f3e7e7d5a1cfcab0c3678c41c22eca51e1b3e9e5ef03f5fe1af", func := "loop.example/g00541/laws.FnLinear", spec := "fnLinear", inPlace := ["internal/abi.NoEscape", "internal/bytealg.MakeNoZero"], apart := false, narrowed := true }
def FnLinearUptoSaid : Prop := fnLinearUptoRow.holds Try.pinned (OpenSpec.upto fnLinearSpec)

/-- 'laws.FnRecords', WHERE WHAT IT READS IS OF BULK AT MOST 1048576: true; the input reads as it did. -/
def fnRecordsUptoRow : OpenClaim := { program := "ytjpeedbabjaidaa", sum := "ee56edcd26523f3e7e7d5a1cfcab0c3678c41c22eca51e1b3e9e5ef03f5fe1af", func := "loop.example/g00541/laws.FnRecords", spec := "fnRecords", unfollowed := true, recurses := true, apart := false, narrowed := true }
def FnRecordsUptoSaid : Prop := fnRecordsUptoRow.holds Try.pinned (OpenSpec.upto fnRecordsSpec)

end Rows
end Go.Proofs.Ytjpeedbabjaidaa

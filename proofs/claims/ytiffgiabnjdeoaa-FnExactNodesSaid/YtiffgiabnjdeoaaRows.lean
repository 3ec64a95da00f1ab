/-
  NARROWER THAN 'FOR EVERY INPUT', by the rows' own cells (each row's printed sentence says how): FnExactDeep: loops · FnExactNodes: loops.
  DERIVED. THE GIVEN ROWS OF THIS SEAT. 10 by the template 'for every input the law returns true; each argument reads behind the call as it read before'; 0 by the template 'total and deterministic' (their statements: YtiffgiabnjdeoaaTotals.lean).
  GIVEN WITH THE SEED: the statements are not yours to turn. If you find one false, say at which input.
  Laid BY PROGRAM, IN A SANDBOX (cutbox-rows.mjs): the forced cells as the released guide's own fill.sh prints them over the translation 31cd76488c23f152… (all of the seat's roots in one cut). By AI agents, Wed Nov 11 2026. No macro, syntax, notation, axiom, sorry.
-/
import Derived.Test.YtiffgiabnjdeoaaChecked
import GoSem.Claim
import GoSem.ClaimJoined
import GoSem.ClaimMapViews
import Derived.JoinedTies
import Derived.KernelRfl
namespace Go.Proofs.Ytiffgiabnjdeoaa
/- THE CELL 'sum', in the pinned program and in every row, IS THE sha256 OF THE DUMP (.gsa) THAT YtiffgiabnjdeoaaProg.lean LOADS. Nothing in Lean hashes anything: it is a label: what it is worth is what the hold of that sum in a sandbox is worth. -/
noncomputable def Try.pinned : Pinned := { name := "ytiffgiabnjdeoaa", sum := "31cd76488c23f152ef143bbf0cc9336b749c62452dfd7e4d9c0196685165b9c0", checked := Try.checked }
namespace Rows
def none {H : Type} : Left H := { results := [], args := [] }

/-- 'laws.FnExactConstants': WHATEVER THE INPUT: true; the input reads as it did. -/
def fnExactConstantsSpec : ChangeSpec := { name := "fnExactConstants", fn := fun _ => fun
  | [] => { results := [.lit (.bool true)], args := [] }
  | _ => none }
def fnExactConstantsRow : OpenClaim := { program := "ytiffgiabnjdeoaa", sum := "31cd76488c23f152ef143bbf0cc9336b749c62452dfd7e4d9c0196685165b9c0", func := "loop.example/g00421/laws.FnExactConstants", spec := "fnExactConstants", apart := false }
def FnExactConstantsSaid : Prop := fnExactConstantsRow.holds Try.pinned (OpenSpec.ofChange fnExactConstantsSpec)

/-- ITS FALSE NEIGHBOUR: 'it returns false'. Refute it at one input. -/
def fnExactConstantsWrong : ChangeSpec := { name := "fnExactConstants", fn := fun _ => fun
  | [] => { results := [.lit (.bool false)], args := [] }
  | _ => none }
def FnExactConstantsWrongFalsely : Prop := fnExactConstantsRow.holds Try.pinned (OpenSpec.ofChange fnExactConstantsWrong)

/-- 'laws.FnExactPutHex': WHATEVER THE INPUT: true; the input reads as it did. -/
def fnExactPutHexSpec : ChangeSpec := { name := "fnExactPutHex", fn := fun _ => fun
  | [d] => { results := [.lit (.bool true)], args := [d] }
  | _ => none }
def fnExactPutHexRow : OpenClaim := { program := "ytiffgiabnjdeoaa", sum := "31cd76488c23f152ef143bbf0cc9336b749c62452dfd7e4d9c0196685165b9c0", func := "loop.example/g00421/laws.FnExactPutHex", spec := "fnExactPutHex", apart := false }
def FnExactPutHexSaid : Prop := fnExactPutHexRow.holds Try.pinned (OpenSpec.ofChange fnExactPutHexSpec)

/-- ITS FALSE NEIGHBOUR: 'it returns false'. Refute it at one input. -/
def fnExactPutHexWrong : ChangeSpec := { name := "fnExactPutHex", fn := fun _ => fun
  | [d] => { results := [.lit (.bool false)], args := [d] }
  | _ => none }
def FnExactPutHexWrongFalsely : Prop := fnExactPutHexRow.holds Try.pinned (OpenSpec.ofChange fnExactPutHexWrong)

/-- 'laws.FnExactGetWide': WHATEVER THE INPUT: true; the input reads as it did. -/
def fnExactGetWideSpec : ChangeSpec := { name := "fnExactGetWide", fn := fun _ => fun
  | [d1, d2, d3] => { results := [.lit (.bool true)], args := [d1, d2, d3] }
  | _ => none }
def fnExactGetWideRow : OpenClaim := { program := "ytiffgiabnjdeoaa", sum := "31cd76488c23f152ef143bbf0cc9336b749c62452dfd7e4d9c0196685165b9c0", func := "loop.example/g00421/laws.FnExactGetWide", spec := "fnExactGetWide", apart := false }
def FnExactGetWideSaid : Prop := fnExactGetWideRow.holds Try.pinned (OpenSpec.ofChange fnExactGetWideSpec)

/-- ITS FALSE NEIGHBOUR: 'it returns false'. Refute it at one input. -/
def fnExactGetWideWrong : ChangeSpec := { name := "fnExactGetWide", fn := fun _ => fun
  | [d1, d2, d3] => { results := [.lit (.bool false)], args := [d1, d2, d3] }
  | _ => none }
def FnExactGetWideWrongFalsely : Prop := fnExactGetWideRow.holds Try.pinned (OpenSpec.ofChange fnExactGetWideWrong)

/-- 'laws.FnExactPutSign': WHATEVER THE INPUT: true; the input reads as it did. -/
def fnExactPutSignSpec : ChangeSpec := { name := "fnExactPutSign", fn := fun _ => fun
  | [d] => { results := [.lit (.bool true)], args := [d] }
  | _ => none }
def fnExactPutSignRow : OpenClaim := { program := "ytiffgiabnjdeoaa", sum := "31cd76488c23f152ef143bbf0cc9336b749c62452dfd7e4d9c0196685165b9c0", func := "loop.example/g00421/laws.FnExactPutSign", spec := "fnExactPutSign", apart := false }
def FnExactPutSignSaid : Prop := fnExactPutSignRow.holds Try.pinned (OpenSpec.ofChange fnExactPutSignSpec)

/-- ITS FALSE NEIGHBOUR: 'it returns false'. Refute it at one input. -/
def fnExactPutSignWrong : ChangeSpec := { name := "fnExactPutSign", fn := fun _ => fun
  | [d] => { results := [.lit (.bool false)], args := [d] }
  | _ => none }
def FnExactPutSignWrongFalsely : Prop := fnExactPutSignRow.holds Try.pinned (OpenSpec.ofChange fnExactPutSignWrong)

/-- 'laws.FnExactPutWide': WHATEVER THE INPUT: true; the input reads as it did. -/
def fnExactPutWideSpec : ChangeSpec := { name := "fnExactPutWide", fn := fun _ => fun
  | [d1, d2] => { results := [.lit (.bool true)], args := [d1, d2] }
  | _ => none }
def fnExactPutWideRow : OpenClaim := { program := "ytiffgiabnjdeoaa", sum := "31cd76488c23f152ef143bbf0cc9336b749c62452dfd7e4d9c0196685165b9c0", func := "loop.example/g00421/laws.FnExactPutWide", spec := "fnExactPutWide", apart := false }
def FnExactPutWideSaid : Prop := fnExactPutWideRow.holds Try.pinned (OpenSpec.ofChange fnExactPutWideSpec)

/-- ITS FALSE NEIGHBOUR: 'it returns false'. Refute it at one input. -/
def fnExactPutWideWrong : ChangeSpec := { name := "fnExactPutWide", fn := fun _ => fun
  | [d1, d2] => { results := [.lit (.bool false)], args := [d1, d2] }
  | _ => none }
def FnExactPutWideWrongFalsely : Prop := fnExactPutWideRow.holds Try.pinned (OpenSpec.ofChange fnExactPutWideWrong)

/-- 'laws.FnExactBlanks': WHATEVER THE INPUT: true; the input reads as it did. -/
def fnExactBlanksSpec : ChangeSpec := { name := "fnExactBlanks", fn := fun _ => fun
  | [d] => { results := [.lit (.bool true)], args := [d] }
  | _ => none }
def fnExactBlanksRow : OpenClaim := { program := "ytiffgiabnjdeoaa", sum := "31cd76488c23f152ef143bbf0cc9336b749c62452dfd7e4d9c0196685165b9c0", func := "loop.example/g00421/laws.FnExactBlanks", spec := "fnExactBlanks", apart := false }
def FnExactBlanksSaid : Prop := fnExactBlanksRow.holds Try.pinned (OpenSpec.ofChange fnExactBlanksSpec)

/-- ITS FALSE NEIGHBOUR: 'it returns false'. Refute it at one input. -/
def fnExactBlanksWrong : ChangeSpec := { name := "fnExactBlanks", fn := fun _ => fun
  | [d] => { results := [.lit (.bool false)], args := [d] }
  | _ => none }
def FnExactBlanksWrongFalsely : Prop := fnExactBlanksRow.holds Try.pinned (OpenSpec.ofChange fnExactBlanksWrong)

/-- 'laws.FnExactGetHex': WHATEVER THE INPUT: true; the input reads as it did. -/
def fnExactGetHexSpec : ChangeSpec := { name := "fnExactGetHex", fn := fun _ => fun
  | [d] => { results := [.lit (.bool true)], args := [d] }
  | _ => none }
def fnExactGetHexRow : OpenClaim := { program := "ytiffgiabnjdeoaa", sum := "31cd76488c23f152ef143bbf0cc9336b749c62452dfd7e4d9c0196685165b9c0", func := "loop.example/g00421/laws.FnExactGetHex", spec := "fnExactGetHex", inPlace := ["internal/bytealg.IndexByteString"], apart := false }
def FnExactGetHexSaid : Prop := fnExactGetHexRow.holds Try.pinned (OpenSpec.ofChange fnExactGetHexSpec)

/-- ITS FALSE NEIGHBOUR: 'it returns false'. Refute it at one input. -/
def fnExactGetHexWrong : ChangeSpec := { name := "fnExactGetHex", fn := fun _ => fun
  | [d] => { results := [.lit (.bool false)], args := [d] }
  | _ => none }
def FnExactGetHexWrongFalsely : Prop := fnExactGetHexRow.holds Try.pinned (OpenSpec.ofChange fnExactGetHexWrong)

/-- 'laws.FnExactPutHead': WHATEVER THE INPUT: true; the input reads as it did. -/
def fnExactPutHeadSpec : ChangeSpec := { name := "fnExactPutHead", fn := fun _ => fun
  | [d1, d2] => { results := [.lit (.bool true)], args := [d1, d2] }
  | _ => none }
def fnExactPutHeadRow : OpenClaim := { program := "ytiffgiabnjdeoaa", sum := "31cd76488c23f152ef143bbf0cc9336b749c62452dfd7e4d9c0196685165b9c0", func := "loop.example/g00421/laws.FnExactPutHead", spec := "fnExactPutHead", apart := false }
def FnExactPutHeadSaid : Prop := fnExactPutHeadRow.holds Try.pinned (OpenSpec.ofChange fnExactPutHeadSpec)

/-- ITS FALSE NEIGHBOUR: 'it returns false'. Refute it at one input. -/
def fnExactPutHeadWrong : ChangeSpec := { name := "fnExactPutHead", fn := fun _ => fun
  | [d1, d2] => { results := [.lit (.bool false)], args := [d1, d2] }
  | _ => none }
def FnExactPutHeadWrongFalsely : Prop := fnExactPutHeadRow.holds Try.pinned (OpenSpec.ofChange fnExactPutHeadWrong)

/-- 'laws.FnExactDeep': WHATEVER THE INPUT: true; the input reads as it did. -/
def fnExactDeepSpec : ChangeSpec := { name := "fnExactDeep", fn := fun _ => fun
  | [d] => { results := [.lit (.bool true)], args := [d] }
  | _ => none }
def fnExactDeepRow : OpenClaim := { program := "ytiffgiabnjdeoaa", sum := "31cd76488c23f152ef143bbf0cc9336b749c62452dfd7e4d9c0196685165b9c0", func := "loop.example/g00421/laws.FnExactDeep", spec := "fnExactDeep", recurses := true, loops := true, apart := false }
def FnExactDeepSaid : Prop := fnExactDeepRow.holds Try.pinned (OpenSpec.ofChange fnExactDeepSpec)

/-- ITS FALSE NEIGHBOUR: 'it returns false'. Refute it at one input. -/
def fnExactDeepWrong : ChangeSpec := { name := "fnExactDeep", fn := fun _ => fun
  | [d] => { results := [.lit (.bool false)], args := [d] }
  | _ => none }
def FnExactDeepWrongFalsely : Prop := fnExactDeepRow.holds Try.pinned (OpenSpec.ofChange fnExactDeepWrong)

/-- 'laws.FnExactNodes': WHATEVER THE INPUT: true; the input reads as it did. -/
def fnExactNodesSpec : ChangeSpec := { name := "fnExactNodes", fn := fun _ => fun
  | [d] => { results := [.lit (.bool true)], args := [d] }
  | _ => none }
def fnExactNodesRow : OpenClaim := { program := "ytiffgiabnjdeoaa", sum := "31cd76488c23f152ef143bbf0cc9336b749c62452dfd7e4d9c0196685165b9c0", func := "loop.example/g00421/laws.FnExactNodes", spec := "fnExactNodes", unfollowed := true, recurses := true, loops := true, apart := false }
def FnExactNodesSaid : Prop := fnExactNodesRow.holds Try.pinned (OpenSpec.ofChange fnExactNodesSpec)

/-- ITS FALSE NEIGHBOUR: 'it returns false'. Refute it at one input. -/
def fnExactNodesWrong : ChangeSpec := { name := "fnExactNodes", fn := fun _ => fun
  | [d] => { results := [.lit (.bool false)], args := [d] }
  | _ => none }
def FnExactNodesWrongFalsely : Prop := fnExactNodesRow.holds Try.pinned (OpenSpec.ofChange fnExactNodesWrong)

/- THE SECOND FORM. 'bulk': how many values and letters a reading holds, each counted each time it is reached (what is shared counts as often as it is met; a slice's spare places count too). A statement '..UptoSaid' is the law's where the arguments, and the package variables that the reading takes, are together of bulk at most 1048576: NARROWER than '..Said'. Prove '..Said' where nothing that the law and all that it calls make is longer than what came in: it says more and counts as full. Else prove '..UptoSaid'. A law counts once. -/
mutual
def uptoBulk {H : Type} : DataW H → Nat
  | .lit (.string bytes) => bytes.length + 1
  | .lit _ => 1
  | .nil => 1
  | .ptr d => uptoBulk d + 1
  | .slice elems spare => uptoBulkAll elems + uptoBulkAll spare + 1
  | .agg parts => uptoBulkAll parts + 1
  | .iface _ d => uptoBulk d + 1
  | .map entries => uptoBulkEntries entries + 1
  | .held _ => 1
def uptoBulkAll {H : Type} : List (DataW H) → Nat
  | [] => 0
  | d :: r => uptoBulk d + uptoBulkAll r
def uptoBulkEntries {H : Type} : List (Lit × DataW H) → Nat
  | [] => 0
  | x :: r => uptoBulkEntry x + uptoBulkEntries r
def uptoBulkEntry {H : Type} : Lit × DataW H → Nat
  | (.string bytes, d) => bytes.length + uptoBulk d + 1
  | (_, d) => uptoBulk d + 1
 end
def uptoSmall : (H : Type) → List (DataW H) → Bool := fun _ ds => decide (uptoBulkAll ds ≤ 1048576)
def OpenSpec.upto (s : _root_.Go.ChangeSpec) : _root_.Go.OpenSpec := { _root_.Go.OpenSpec.ofChange s with cond := some uptoSmall }

/-- 'laws.FnExactConstants', WHERE WHAT IT READS IS OF BULK AT MOST 1048576: true; the input reads as it did. -/
def fnExactConstantsUptoRow : OpenClaim := { program := "ytiffgiabnjdeoaa", sum := "31cd76488c23f152ef143bbf0cc9336b749c62452dfd7e4d9c0196685165b9c0", func := "loop.example/g00421/laws.FnExactConstants", spec := "fnExactConstants", apart := false, narrowed := true }
def FnExactConstantsUptoSaid : Prop := fnExactConstantsUptoRow.holds Try.pinned (OpenSpec.upto fnExactConstantsSpec)

/-- 'laws.FnExactPutHex', WHERE WHAT IT READS IS OF BULK AT MOST 1048576: true; the input reads as it did. -/
def fnExactPutHexUptoRow : OpenClaim := { program := "ytiffgiabnjdeoaa", sum := "31cd76488c23f152ef143bbf0cc9336b749c62452dfd7e4d9c0196685165b9c0", func := "loop.example/g00421/laws.FnExactPutHex", spec := "fnExactPutHex", apart := false, narrowed := true }
def FnExactPutHexUptoSaid : Prop := fnExactPutHexUptoRow.holds Try.pinned (OpenSpec.upto fnExactPutHexSpec)

/-- 'laws.FnExactGetWide', WHERE WHAT IT READS IS OF BULK AT MOST 1048576: true; the input reads as it did. -/
def fnExactGetWideUptoRow : OpenClaim := { program := "ytiffgiabnjdeoaa", sum := "31cd76488c23f152ef143bbf0cc9336b749c62452dfd7e4d9c0196685165b9c0", func := "loop.example/g00421/laws.FnExactGetWide", spec := "fnExactGetWide", apart := false, narrowed := true }
def FnExactGetWideUptoSaid : Prop := fnExactGetWideUptoRow.holds Try.pinned (OpenSpec.upto fnExactGetWideSpec)

/-- 'laws.FnExactPutSign', WHERE WHAT IT READS IS OF BULK AT MOST 1048576: true; the input reads as it did. -/
def fnExactPutSignUptoRow : OpenClaim := { program := "ytiffgiabnjdeoaa", sum := "31cd76488c23f152ef143bbf0cc9336b749c62452dfd7e4d9c0196685165b9c0", func := "loop.example/g00421/laws.FnExactPutSign", spec := "fnExactPutSign", apart := false, narrowed := true }
def FnExactPutSignUptoSaid : Prop := fnExactPutSignUptoRow.holds Try.pinned (OpenSpec.upto fnExactPutSignSpec)

/-- 'laws.FnExactPutWide', WHERE WHAT IT READS IS OF BULK AT MOST 1048576: true; the input reads as it did. -/
def fnExactPutWideUptoRow : OpenClaim := { program := "ytiffgiabnjdeoaa", sum := "31cd76488c23f152ef143bbf0cc9336b749c62452dfd7e4d9c0196685165b9c0", func := "loop.example/g00421/laws.FnExactPutWide", spec := "fnExactPutWide", apart := false, narrowed := true }
def FnExactPutWideUptoSaid : Prop := fnExactPutWideUptoRow.holds Try.pinned (OpenSpec.upto fnExactPutWideSpec)

/-- 'laws.FnExactBlanks', WHERE WHAT IT READS IS OF BULK AT MOST 1048576: true; the input reads as it did. -/
def fnExactBlanksUptoRow : OpenClaim := { program := "ytiffgiabnjdeoaa", sum := "31cd76488c23f152ef143bbf0cc9336b749c62452dfd7e4d9c0196685165b9c0", func := "loop.example/g00421/laws.FnExactBlanks", spec := "fnExactBlanks", apart := false, narrowed := true }
def FnExactBlanksUptoSaid : Prop := fnExactBlanksUptoRow.holds Try.pinned (OpenSpec.upto fnExactBlanksSpec)

/-- 'laws.FnExactGetHex', WHERE WHAT IT READS IS OF BULK AT MOST 1048576: true; the input reads as it did. -/
def fnExactGetHexUptoRow : OpenClaim := { program := "ytiffgiabnjdeoaa", sum := "31cd76488c23f152ef143bbf0cc9336b749c62452dfd7e4d9c0196685165b9c0", func := "loop.example/g00421/laws.FnExactGetHex", spec := "fnExactGetHex", inPlace := ["internal/bytealg.IndexByteString"], apart := false, narrowed := true }
def FnExactGetHexUptoSaid : Prop := fnExactGetHexUptoRow.holds Try.pinned (OpenSpec.upto fnExactGetHexSpec)

/-- 'laws.FnExactPutHead', WHERE WHAT IT READS IS OF BULK AT MOST 1048576: true; the input reads as it did. -/
def fnExactPutHeadUptoRow : OpenClaim := { program := "ytiffgiabnjdeoaa", sum := "31cd76488c23f152ef143bbf0cc9336b749c62452dfd7e4d9c0196685165b9c0", func := "loop.example/g00421/laws.FnExactPutHead", spec := "fnExactPutHead", apart := false, narrowed := true }
def FnExactPutHeadUptoSaid : Prop := fnExactPutHeadUptoRow.holds Try.pinned (OpenSpec.upto fnExactPutHeadSpec)

/-- 'laws.FnExactDeep', WHERE WHAT IT READS IS OF BULK AT MOST 1048576: true; the input reads as it did. -/
def fnExactDeepUptoRow : OpenClaim := { program := "ytiffgiabnjdeoaa", sum := "31cd76488c23f152ef143bbf0cc9336b749c62452dfd7e4d9c0196685165b9c0", func := "loop.example/g00421/laws.FnExactDeep", spec := "fnExactDeep", recurses := true, loops := true, apart := false, narrowed := true }
def FnExactDeepUptoSaid : Prop := fnExactDeepUptoRow.holds Try.pinned (OpenSpec.upto fnExactDeepSpec)

/-- 'laws.FnExactNodes', WHERE WHAT IT READS IS OF BULK AT MOST 1048576: true; the input reads as it did. -/
def fnExactNodesUptoRow : OpenClaim := { program := "ytiffgiabnjdeoaa", sum := "31cd76488c23f152ef143bbf0cc9336b749c62452dfd7e4d9c0196685165b9c0", func := "loop.example/g00421/laws.FnExactNodes", spec := "fnExactNodes", unfollowed := true, recurses := true, loops := true, apart := false, narrowed := true }
def FnExactNodesUptoSaid : Prop := fnExactNodesUptoRow.holds Try.pinned (OpenSpec.upto fnExactNodesSpec)

end Rows
end Go.Proofs.Ytiffgiabnjdeoaa

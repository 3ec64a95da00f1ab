/-
  NARROWER THAN 'FOR EVERY INPUT', by the rows' own cells (each row's printed sentence says how): FnExactPutMsg: loops, laid · FnExactPutCbor: loops, laid · FnExactMsgSize: loops, laid · FnExactCborSize: loops, laid.
  DERIVED. THE GIVEN ROWS OF THIS SEAT. 4 by the template 'for every input the law returns true; each argument reads behind the call as it read before'; 0 by the template 'total and deterministic' (their statements: YtkajfinfphmlaaaDoorTotals.lean).
  GIVEN WITH THE SEED: the statements are not yours to turn. If you find one false, say at which input.
  Laid BY PROGRAM, IN A SANDBOX (cutbox-rows.mjs): the forced cells as the released guide's own fill.sh prints them over the translation c776bb811e6e8730… (all of the seat's roots in one cut). By AI agents, Wed Nov 11 2026. No macro, syntax, notation, axiom, sorry.
-/
import Derived.Test.YtkajfinfphmlaaaDoorChecked
import GoSem.PinnedTables
import GoSem.Claim
import GoSem.ClaimJoined
import GoSem.ClaimMapViews
import Derived.JoinedTies
import Derived.KernelRfl
namespace Go.Proofs.YtkajfinfphmlaaaDoor
/- THE CELL 'sum', in the pinned program and in every row, IS THE sha256 OF THE DUMP (.gsa) THAT YtkajfinfphmlaaaDoorProg.lean LOADS. Nothing in Lean hashes anything: it is a label: what it is worth is what the hold of that sum in a sandbox is worth. -/
noncomputable def Tryd.pinned : Pinned := { name := "ytkajfinfphmlaaadoor", sum := "c776bb811e6e873051cb545c6551bced4a43b959c429de51b2c7012c4549a186", checked := Tryd.checked }
namespace Rows
def none {H : Type} : Left H := { results := [], args := [] }

/- WHAT THE LISTED PACKAGE-LEVEL VARIABLES READ AS WHEN THE CALL BEGINS. Each datum BY PROGRAM (the guide's laid-datum.mjs) off the statement by which the dump's own 'gosem.cut.vars' lays the variable. In a bare row this is a premise. The card (YtkajfinfphmlaaaDoorCards.lean) ties it to the program's text. -/
def laid_unicode_utf8_acceptRanges {H : Type} : DataW H := .agg [.agg [.lit (.int .u8 128), .lit (.int .u8 191)], .agg [.lit (.int .u8 160), .lit (.int .u8 191)], .agg [.lit (.int .u8 128), .lit (.int .u8 159)], .agg [.lit (.int .u8 144), .lit (.int .u8 191)], .agg [.lit (.int .u8 128), .lit (.int .u8 143)], .agg [.lit (.int .u8 0), .lit (.int .u8 0)], .agg [.lit (.int .u8 0), .lit (.int .u8 0)], .agg [.lit (.int .u8 0), .lit (.int .u8 0)], .agg [.lit (.int .u8 0), .lit (.int .u8 0)], .agg [.lit (.int .u8 0), .lit (.int .u8 0)], .agg [.lit (.int .u8 0), .lit (.int .u8 0)], .agg [.lit (.int .u8 0), .lit (.int .u8 0)], .agg [.lit (.int .u8 0), .lit (.int .u8 0)], .agg [.lit (.int .u8 0), .lit (.int .u8 0)], .agg [.lit (.int .u8 0), .lit (.int .u8 0)], .agg [.lit (.int .u8 0), .lit (.int .u8 0)]]
/-- One of Go's own tables, pinned by name: the form's constant. -/
def laid_unicode_utf8_first : DataW Unit := Go.Pinned.utf8First

/-- 'laws.FnExactPutMsg': WHATEVER THE INPUT: true; the input reads as it did. -/
def fnExactPutMsgSpec : ChangeSpec := { name := "fnExactPutMsg", fn := fun _ => fun
  | [d] => { results := [.lit (.bool true)], args := [d] }
  | _ => none }
def fnExactPutMsgRow : OpenClaim := { program := "ytkajfinfphmlaaadoor", sum := "c776bb811e6e873051cb545c6551bced4a43b959c429de51b2c7012c4549a186", func := "loop.example/g00421/laws.FnExactPutMsg", spec := "fnExactPutMsg", inPlace := ["internal/abi.NoEscape"], unfollowed := true, recurses := true, named := ["unicode/utf8.first", "unicode/utf8.acceptRanges"], loops := true, apart := false, laid := [("unicode/utf8.acceptRanges", laid_unicode_utf8_acceptRanges), ("unicode/utf8.first", laid_unicode_utf8_first)] }
def FnExactPutMsgSaid : Prop := fnExactPutMsgRow.holds Tryd.pinned (OpenSpec.ofChange fnExactPutMsgSpec)

/-- ITS FALSE NEIGHBOUR: 'it returns false'. Refute it at one input. -/
def fnExactPutMsgWrong : ChangeSpec := { name := "fnExactPutMsg", fn := fun _ => fun
  | [d] => { results := [.lit (.bool false)], args := [d] }
  | _ => none }
def FnExactPutMsgWrongFalsely : Prop := fnExactPutMsgRow.holds Tryd.pinned (OpenSpec.ofChange fnExactPutMsgWrong)

/-- 'laws.FnExactPutCbor': WHATEVER THE INPUT: true; the input reads as it did. -/
def fnExactPutCborSpec : ChangeSpec := { name := "fnExactPutCbor", fn := fun _ => fun
  | [d] => { results := [.lit (.bool true)], args := [d] }
  | _ => none }
def fnExactPutCborRow : OpenClaim := { program := "ytkajfinfphmlaaadoor", sum := "c776bb811e6e873051cb545c6551bced4a43b959c429de51b2c7012c4549a186", func := "loop.example/g00421/laws.FnExactPutCbor", spec := "fnExactPutCbor", inPlace := ["internal/abi.NoEscape"], unfollowed := true, recurses := true, named := ["unicode/utf8.first", "unicode/utf8.acceptRanges"], loops := true, apart := false, laid := [("unicode/utf8.acceptRanges", laid_unicode_utf8_acceptRanges), ("unicode/utf8.first", laid_unicode_utf8_first)] }
def FnExactPutCborSaid : Prop := fnExactPutCborRow.holds Tryd.pinned (OpenSpec.ofChange fnExactPutCborSpec)

/-- ITS FALSE NEIGHBOUR: 'it returns false'. Refute it at one input. -/
def fnExactPutCborWrong : ChangeSpec := { name := "fnExactPutCbor", fn := fun _ => fun
  | [d] => { results := [.lit (.bool false)], args := [d] }
  | _ => none }
def FnExactPutCborWrongFalsely : Prop := fnExactPutCborRow.holds Tryd.pinned (OpenSpec.ofChange fnExactPutCborWrong)

/-- 'laws.FnExactMsgSize': WHATEVER THE INPUT: true; the input reads as it did. -/
def fnExactMsgSizeSpec : ChangeSpec := { name := "fnExactMsgSize", fn := fun _ => fun
  | [d] => { results := [.lit (.bool true)], args := [d] }
  | _ => none }
def fnExactMsgSizeRow : OpenClaim := { program := "ytkajfinfphmlaaadoor", sum := "c776bb811e6e873051cb545c6551bced4a43b959c429de51b2c7012c4549a186", func := "loop.example/g00421/laws.FnExactMsgSize", spec := "fnExactMsgSize", inPlace := ["internal/abi.NoEscape"], unfollowed := true, recurses := true, named := ["unicode/utf8.first", "unicode/utf8.acceptRanges"], loops := true, apart := false, laid := [("unicode/utf8.acceptRanges", laid_unicode_utf8_acceptRanges), ("unicode/utf8.first", laid_unicode_utf8_first)] }
def FnExactMsgSizeSaid : Prop := fnExactMsgSizeRow.holds Tryd.pinned (OpenSpec.ofChange fnExactMsgSizeSpec)

/-- ITS FALSE NEIGHBOUR: 'it returns false'. Refute it at one input. -/
def fnExactMsgSizeWrong : ChangeSpec := { name := "fnExactMsgSize", fn := fun _ => fun
  | [d] => { results := [.lit (.bool false)], args := [d] }
  | _ => none }
def FnExactMsgSizeWrongFalsely : Prop := fnExactMsgSizeRow.holds Tryd.pinned (OpenSpec.ofChange fnExactMsgSizeWrong)

/-- 'laws.FnExactCborSize': WHATEVER THE INPUT: true; the input reads as it did. -/
def fnExactCborSizeSpec : ChangeSpec := { name := "fnExactCborSize", fn := fun _ => fun
  | [d] => { results := [.lit (.bool true)], args := [d] }
  | _ => none }
def fnExactCborSizeRow : OpenClaim := { program := "ytkajfinfphmlaaadoor", sum := "c776bb811e6e873051cb545c6551bced4a43b959c429de51b2c7012c4549a186", func := "loop.example/g00421/laws.FnExactCborSize", spec := "fnExactCborSize", inPlace := ["internal/abi.NoEscape"], unfollowed := true, recurses := true, named := ["unicode/utf8.first", "unicode/utf8.acceptRanges"], loops := true, apart := false, laid := [("unicode/utf8.acceptRanges", laid_unicode_utf8_acceptRanges), ("unicode/utf8.first", laid_unicode_utf8_first)] }
def FnExactCborSizeSaid : Prop := fnExactCborSizeRow.holds Tryd.pinned (OpenSpec.ofChange fnExactCborSizeSpec)

/-- ITS FALSE NEIGHBOUR: 'it returns false'. Refute it at one input. -/
def fnExactCborSizeWrong : ChangeSpec := { name := "fnExactCborSize", fn := fun _ => fun
  | [d] => { results := [.lit (.bool false)], args := [d] }
  | _ => none }
def FnExactCborSizeWrongFalsely : Prop := fnExactCborSizeRow.holds Tryd.pinned (OpenSpec.ofChange fnExactCborSizeWrong)

/- THE SECOND FORM. 'bulk': how many values and letters a reading holds, each counted each time it is reached (what is shared counts as often as it is met; a slice's spare places count too). A statement '..UptoSaid' is the law's where the arguments, and the package variables that the reading takes, are together of bulk at most 1048576: NARROWER than '..Said'. Prove '..Said' where nothing that the law and all that it calls make is longer than what came in: it says more and counts as full. Else prove '..UptoSaid'. A law counts once. -/
mutual
def uptoBulk {H : Type} : DataW H → Nat
  | .lit (.string bytes) => bytes.length + 1
  | .lit _ => 1
  | .nil => 1
  | .ptr d => uptoBulk d + 1
  | .slice elems spare => uptoBulkAll elems + uptoBulkAll spare + 1
  | .agg parts => uptoBulkAll parts + 1
  | .iface _ d => uptoBulk d + 1
  | .map entries => uptoBulkEntries entries + 1
  | .held _ => 1
def uptoBulkAll {H : Type} : List (DataW H) → Nat
  | [] => 0
  | d :: r => uptoBulk d + uptoBulkAll r
def uptoBulkEntries {H : Type} : List (Lit × DataW H) → Nat
  | [] => 0
  | x :: r => uptoBulkEntry x + uptoBulkEntries r
def uptoBulkEntry {H : Type} : Lit × DataW H → Nat
  | (.string bytes, d) => bytes.length + uptoBulk d + 1
  | (_, d) => uptoBulk d + 1
 end
def uptoSmall : (H : Type) → List (DataW H) → Bool := fun _ ds => decide (uptoBulkAll ds ≤ 1048576)
def OpenSpec.upto (s : _root_.Go.ChangeSpec) : _root_.Go.OpenSpec := { _root_.Go.OpenSpec.ofChange s with cond := some uptoSmall }

/-- 'laws.FnExactPutMsg', WHERE WHAT IT READS IS OF BULK AT MOST 1048576: true; the input reads as it did. -/
def fnExactPutMsgUptoRow : OpenClaim := { program := "ytkajfinfphmlaaadoor", sum := "c776bb811e6e873051cb545c6551bced4a43b959c429de51b2c7012c4549a186", func := "loop.example/g00421/laws.FnExactPutMsg", spec := "fnExactPutMsg", inPlace := ["internal/abi.NoEscape"], unfollowed := true, recurses := true, named := ["unicode/utf8.first", "unicode/utf8.acceptRanges"], loops := true, apart := false, laid := [("unicode/utf8.acceptRanges", laid_unicode_utf8_acceptRanges), ("unicode/utf8.first", laid_unicode_utf8_first)], narrowed := true }
def FnExactPutMsgUptoSaid : Prop := fnExactPutMsgUptoRow.holds Tryd.pinned (OpenSpec.upto fnExactPutMsgSpec)

/-- 'laws.FnExactPutCbor', WHERE WHAT IT READS IS OF BULK AT MOST 1048576: true; the input reads as it did. -/
def fnExactPutCborUptoRow : OpenClaim := { program := "ytkajfinfphmlaaadoor", sum := "c776bb811e6e873051cb545c6551bced4a43b959c429de51b2c7012c4549a186", func := "loop.example/g00421/laws.FnExactPutCbor", spec := "fnExactPutCbor", inPlace := ["internal/abi.NoEscape"], unfollowed := true, recurses := true, named := ["unicode/utf8.first", "unicode/utf8.acceptRanges"], loops := true, apart := false, laid := [("unicode/utf8.acceptRanges", laid_unicode_utf8_acceptRanges), ("unicode/utf8.first", laid_unicode_utf8_first)], narrowed := true }
def FnExactPutCborUptoSaid : Prop := fnExactPutCborUptoRow.holds Tryd.pinned (OpenSpec.upto fnExactPutCborSpec)

/-- 'laws.FnExactMsgSize', WHERE WHAT IT READS IS OF BULK AT MOST 1048576: true; the input reads as it did. -/
def fnExactMsgSizeUptoRow : OpenClaim := { program := "ytkajfinfphmlaaadoor", sum := "c776bb811e6e873051cb545c6551bced4a43b959c429de51b2c7012c4549a186", func := "loop.example/g00421/laws.FnExactMsgSize", spec := "fnExactMsgSize", inPlace := ["internal/abi.NoEscape"], unfollowed := true, recurses := true, named := ["unicode/utf8.first", "unicode/utf8.acceptRanges"], loops := true, apart := false, laid := [("unicode/utf8.acceptRanges", laid_unicode_utf8_acceptRanges), ("unicode/utf8.first", laid_unicode_utf8_first)], narrowed := true }
def FnExactMsgSizeUptoSaid : Prop := fnExactMsgSizeUptoRow.holds Tryd.pinned (OpenSpec.upto fnExactMsgSizeSpec)

/-- 'laws.FnExactCborSize', WHERE WHAT IT READS IS OF BULK AT MOST 1048576: true; the input reads as it did. -/
def fnExactCborSizeUptoRow : OpenClaim := { program := "ytkajfinfphmlaaadoor", sum := "c776bb811e6e873051cb545c6551bced4a43b959c429de51b2c7012c4549a186", func := "loop.example/g00421/laws.FnExactCborSize", spec := "fnExactCborSize", inPlace := ["internal/abi.NoEscape"], unfollowed := true, recurses := true, named := ["unicode/utf8.first", "unicode/utf8.acceptRanges"], loops := true, apart := false, laid := [("unicode/utf8.acceptRanges", laid_unicode_utf8_acceptRanges), ("unicode/utf8.first", laid_unicode_utf8_first)], narrowed := true }
def FnExactCborSizeUptoSaid : Prop := fnExactCborSizeUptoRow.holds Tryd.pinned (OpenSpec.upto fnExactCborSizeSpec)

end Rows
end Go.Proofs.YtkajfinfphmlaaaDoor

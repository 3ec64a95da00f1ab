/-
  NARROWER THAN 'FOR EVERY INPUT', by the rows' own cells (each row's printed sentence says how): FnExactGetSign: laid · FnExactTextOk: laid · FnExactSigns: laid · FnExactQuote: laid · FnExactWords: laid · FnExactUnquote: laid · FnSigns: laid · FnExactPutPath: laid · FnExactGetPath: laid.
  DERIVED. THE GIVEN ROWS OF THIS SEAT. 9 by the template 'for every input the law returns true; each argument reads behind the call as it read before'; 0 by the template 'total and deterministic' (their statements: YtmfogabkpeoagaaDoorTotals.lean).
  GIVEN WITH THE SEED: the statements are not yours to turn. If you find one false, say at which input.
  Laid BY PROGRAM, IN A SANDBOX (cutbox-rows.mjs): the forced cells as the released guide's own fill.sh prints them over the translation 23bc0ed42e1a29b0… (all of the seat's roots in one cut). By AI agents, Wed Nov 11 2026. No macro, syntax, notation, axiom, sorry.
-/
import Derived.Test.YtmfogabkpeoagaaDoorChecked
import GoSem.PinnedTables
import GoSem.Claim
import GoSem.ClaimJoined
import GoSem.ClaimMapViews
import Derived.JoinedTies
import Derived.KernelRfl
namespace Go.Proofs.YtmfogabkpeoagaaDoor
/- THE CELL 'sum', in the pinned program and in every row, IS THE sha256 OF THE DUMP (.gsa) THAT YtmfogabkpeoagaaDoorProg.lean LOADS. Nothing in Lean hashes anything: it is a label: what it is worth is what the hold of that sum in a sandbox is worth. -/
noncomputable def Tryd.pinned : Pinned := { name := "ytmfogabkpeoagaadoor", sum := "23bc0ed42e1a29b036ed7b063d9131a90c5bcba6da46ad7474af40445ebeb877", checked := Tryd.checked }
namespace Rows
def none {H : Type} : Left H := { results := [], args := [] }

/- WHAT THE LISTED PACKAGE-LEVEL VARIABLES READ AS WHEN THE CALL BEGINS. Each datum BY PROGRAM (the guide's laid-datum.mjs) off the statement by which the dump's own 'gosem.cut.vars' lays the variable. In a bare row this is a premise. The card (YtmfogabkpeoagaaDoorCards.lean) ties it to the program's text. -/
def laid_unicode_utf8_acceptRanges {H : Type} : DataW H := .agg [.agg [.lit (.int .u8 128), .lit (.int .u8 191)], .agg [.lit (.int .u8 160), .lit (.int .u8 191)], .agg [.lit (.int .u8 128), .lit (.int .u8 159)], .agg [.lit (.int .u8 144), .lit (.int .u8 191)], .agg [.lit (.int .u8 128), .lit (.int .u8 143)], .agg [.lit (.int .u8 0), .lit (.int .u8 0)], .agg [.lit (.int .u8 0), .lit (.int .u8 0)], .agg [.lit (.int .u8 0), .lit (.int .u8 0)], .agg [.lit (.int .u8 0), .lit (.int .u8 0)], .agg [.lit (.int .u8 0), .lit (.int .u8 0)], .agg [.lit (.int .u8 0), .lit (.int .u8 0)], .agg [.lit (.int .u8 0), .lit (.int .u8 0)], .agg [.lit (.int .u8 0), .lit (.int .u8 0)], .agg [.lit (.int .u8 0), .lit (.int .u8 0)], .agg [.lit (.int .u8 0), .lit (.int .u8 0)], .agg [.lit (.int .u8 0), .lit (.int .u8 0)]]
/-- One of Go's own tables, pinned by name: the form's constant. -/
def laid_unicode_utf8_first : DataW Unit := Go.Pinned.utf8First
/-- One of Go's own tables, pinned by name: the form's constant. -/
def laid_unicode_CaseRanges : DataW Unit := Go.Pinned.caseRanges

/-- 'laws.FnExactGetSign': WHATEVER THE INPUT: true; the input reads as it did. -/
def fnExactGetSignSpec : ChangeSpec := { name := "fnExactGetSign", fn := fun _ => fun
  | [d1, d2] => { results := [.lit (.bool true)], args := [d1, d2] }
  | _ => none }
def fnExactGetSignRow : OpenClaim := { program := "ytmfogabkpeoagaadoor", sum := "23bc0ed42e1a29b036ed7b063d9131a90c5bcba6da46ad7474af40445ebeb877", func := "loop.example/g00421/laws.FnExactGetSign", spec := "fnExactGetSign", named := ["unicode/utf8.first", "unicode/utf8.acceptRanges"], apart := false, laid := [("unicode/utf8.acceptRanges", laid_unicode_utf8_acceptRanges), ("unicode/utf8.first", laid_unicode_utf8_first)] }
def FnExactGetSignSaid : Prop := fnExactGetSignRow.holds Tryd.pinned (OpenSpec.ofChange fnExactGetSignSpec)

/-- ITS FALSE NEIGHBOUR: 'it returns false'. Refute it at one input. -/
def fnExactGetSignWrong : ChangeSpec := { name := "fnExactGetSign", fn := fun _ => fun
  | [d1, d2] => { results := [.lit (.bool false)], args := [d1, d2] }
  | _ => none }
def FnExactGetSignWrongFalsely : Prop := fnExactGetSignRow.holds Tryd.pinned (OpenSpec.ofChange fnExactGetSignWrong)

/-- 'laws.FnExactTextOk': WHATEVER THE INPUT: true; the input reads as it did. -/
def fnExactTextOkSpec : ChangeSpec := { name := "fnExactTextOk", fn := fun _ => fun
  | [d] => { results := [.lit (.bool true)], args := [d] }
  | _ => none }
def fnExactTextOkRow : OpenClaim := { program := "ytmfogabkpeoagaadoor", sum := "23bc0ed42e1a29b036ed7b063d9131a90c5bcba6da46ad7474af40445ebeb877", func := "loop.example/g00421/laws.FnExactTextOk", spec := "fnExactTextOk", named := ["unicode/utf8.first", "unicode/utf8.acceptRanges"], apart := false, laid := [("unicode/utf8.acceptRanges", laid_unicode_utf8_acceptRanges), ("unicode/utf8.first", laid_unicode_utf8_first)] }
def FnExactTextOkSaid : Prop := fnExactTextOkRow.holds Tryd.pinned (OpenSpec.ofChange fnExactTextOkSpec)

/-- ITS FALSE NEIGHBOUR: 'it returns false'. Refute it at one input. -/
def fnExactTextOkWrong : ChangeSpec := { name := "fnExactTextOk", fn := fun _ => fun
  | [d] => { results := [.lit (.bool false)], args := [d] }
  | _ => none }
def FnExactTextOkWrongFalsely : Prop := fnExactTextOkRow.holds Tryd.pinned (OpenSpec.ofChange fnExactTextOkWrong)

/-- 'laws.FnExactSigns': WHATEVER THE INPUT: true; the input reads as it did. -/
def fnExactSignsSpec : ChangeSpec := { name := "fnExactSigns", fn := fun _ => fun
  | [d] => { results := [.lit (.bool true)], args := [d] }
  | _ => none }
def fnExactSignsRow : OpenClaim := { program := "ytmfogabkpeoagaadoor", sum := "23bc0ed42e1a29b036ed7b063d9131a90c5bcba6da46ad7474af40445ebeb877", func := "loop.example/g00421/laws.FnExactSigns", spec := "fnExactSigns", named := ["unicode/utf8.first", "unicode/utf8.acceptRanges"], apart := false, laid := [("unicode/utf8.acceptRanges", laid_unicode_utf8_acceptRanges), ("unicode/utf8.first", laid_unicode_utf8_first)] }
def FnExactSignsSaid : Prop := fnExactSignsRow.holds Tryd.pinned (OpenSpec.ofChange fnExactSignsSpec)

/-- ITS FALSE NEIGHBOUR: 'it returns false'. Refute it at one input. -/
def fnExactSignsWrong : ChangeSpec := { name := "fnExactSigns", fn := fun _ => fun
  | [d] => { results := [.lit (.bool false)], args := [d] }
  | _ => none }
def FnExactSignsWrongFalsely : Prop := fnExactSignsRow.holds Tryd.pinned (OpenSpec.ofChange fnExactSignsWrong)

/-- 'laws.FnExactQuote': WHATEVER THE INPUT: true; the input reads as it did. -/
def fnExactQuoteSpec : ChangeSpec := { name := "fnExactQuote", fn := fun _ => fun
  | [d] => { results := [.lit (.bool true)], args := [d] }
  | _ => none }
def fnExactQuoteRow : OpenClaim := { program := "ytmfogabkpeoagaadoor", sum := "23bc0ed42e1a29b036ed7b063d9131a90c5bcba6da46ad7474af40445ebeb877", func := "loop.example/g00421/laws.FnExactQuote", spec := "fnExactQuote", inPlace := ["internal/bytealg.IndexByteString"], named := ["unicode/utf8.first", "unicode/utf8.acceptRanges"], apart := false, laid := [("unicode/utf8.acceptRanges", laid_unicode_utf8_acceptRanges), ("unicode/utf8.first", laid_unicode_utf8_first)] }
def FnExactQuoteSaid : Prop := fnExactQuoteRow.holds Tryd.pinned (OpenSpec.ofChange fnExactQuoteSpec)

/-- ITS FALSE NEIGHBOUR: 'it returns false'. Refute it at one input. -/
def fnExactQuoteWrong : ChangeSpec := { name := "fnExactQuote", fn := fun _ => fun
  | [d] => { results := [.lit (.bool false)], args := [d] }
  | _ => none }
def FnExactQuoteWrongFalsely : Prop := fnExactQuoteRow.holds Tryd.pinned (OpenSpec.ofChange fnExactQuoteWrong)

/-- 'laws.FnExactWords': WHATEVER THE INPUT: true; the input reads as it did. -/
def fnExactWordsSpec : ChangeSpec := { name := "fnExactWords", fn := fun _ => fun
  | [d] => { results := [.lit (.bool true)], args := [d] }
  | _ => none }
def fnExactWordsRow : OpenClaim := { program := "ytmfogabkpeoagaadoor", sum := "23bc0ed42e1a29b036ed7b063d9131a90c5bcba6da46ad7474af40445ebeb877", func := "loop.example/g00421/laws.FnExactWords", spec := "fnExactWords", inPlace := ["internal/bytealg.CountString", "internal/bytealg.IndexByteString", "internal/bytealg.IndexString"], named := ["unicode/utf8.first", "unicode/utf8.acceptRanges", "internal/bytealg.MaxLen"], apart := false, laid := [("unicode/utf8.acceptRanges", laid_unicode_utf8_acceptRanges), ("unicode/utf8.first", laid_unicode_utf8_first)] }
def FnExactWordsSaid : Prop := fnExactWordsRow.holds Tryd.pinned (OpenSpec.ofChange fnExactWordsSpec)

/-- ITS FALSE NEIGHBOUR: 'it returns false'. Refute it at one input. -/
def fnExactWordsWrong : ChangeSpec := { name := "fnExactWords", fn := fun _ => fun
  | [d] => { results := [.lit (.bool false)], args := [d] }
  | _ => none }
def FnExactWordsWrongFalsely : Prop := fnExactWordsRow.holds Tryd.pinned (OpenSpec.ofChange fnExactWordsWrong)

/-- 'laws.FnExactUnquote': WHATEVER THE INPUT: true; the input reads as it did. -/
def fnExactUnquoteSpec : ChangeSpec := { name := "fnExactUnquote", fn := fun _ => fun
  | [d1, d2] => { results := [.lit (.bool true)], args := [d1, d2] }
  | _ => none }
def fnExactUnquoteRow : OpenClaim := { program := "ytmfogabkpeoagaadoor", sum := "23bc0ed42e1a29b036ed7b063d9131a90c5bcba6da46ad7474af40445ebeb877", func := "loop.example/g00421/laws.FnExactUnquote", spec := "fnExactUnquote", inPlace := ["internal/bytealg.IndexByteString", "internal/abi.NoEscape", "internal/bytealg.MakeNoZero"], unfollowed := true, recurses := true, named := ["unicode/utf8.first", "unicode/utf8.acceptRanges", "unicode.CaseRanges"], apart := false, laid := [("unicode/utf8.acceptRanges", laid_unicode_utf8_acceptRanges), ("unicode.CaseRanges", laid_unicode_CaseRanges), ("unicode/utf8.first", laid_unicode_utf8_first)] }
def FnExactUnquoteSaid : Prop := fnExactUnquoteRow.holds Tryd.pinned (OpenSpec.ofChange fnExactUnquoteSpec)

/-- ITS FALSE NEIGHBOUR: 'it returns false'. Refute it at one input. -/
def fnExactUnquoteWrong : ChangeSpec := { name := "fnExactUnquote", fn := fun _ => fun
  | [d1, d2] => { results := [.lit (.bool false)], args := [d1, d2] }
  | _ => none }
def FnExactUnquoteWrongFalsely : Prop := fnExactUnquoteRow.holds Tryd.pinned (OpenSpec.ofChange fnExactUnquoteWrong)

/-- 'laws.FnSigns': WHATEVER THE INPUT: true; the input reads as it did. -/
def fnSignsSpec : ChangeSpec := { name := "fnSigns", fn := fun _ => fun
  | [d] => { results := [.lit (.bool true)], args := [d] }
  | _ => none }
def fnSignsRow : OpenClaim := { program := "ytmfogabkpeoagaadoor", sum := "23bc0ed42e1a29b036ed7b063d9131a90c5bcba6da46ad7474af40445ebeb877", func := "loop.example/g00421/laws.FnSigns", spec := "fnSigns", named := ["unicode/utf8.first", "unicode/utf8.acceptRanges"], apart := false, laid := [("unicode/utf8.acceptRanges", laid_unicode_utf8_acceptRanges), ("unicode/utf8.first", laid_unicode_utf8_first)] }
def FnSignsSaid : Prop := fnSignsRow.holds Tryd.pinned (OpenSpec.ofChange fnSignsSpec)

/-- ITS FALSE NEIGHBOUR: 'it returns false'. Refute it at one input. -/
def fnSignsWrong : ChangeSpec := { name := "fnSigns", fn := fun _ => fun
  | [d] => { results := [.lit (.bool false)], args := [d] }
  | _ => none }
def FnSignsWrongFalsely : Prop := fnSignsRow.holds Tryd.pinned (OpenSpec.ofChange fnSignsWrong)

/-- 'laws.FnExactPutPath': WHATEVER THE INPUT: true; the input reads as it did. -/
def fnExactPutPathSpec : ChangeSpec := { name := "fnExactPutPath", fn := fun _ => fun
  | [d] => { results := [.lit (.bool true)], args := [d] }
  | _ => none }
def fnExactPutPathRow : OpenClaim := { program := "ytmfogabkpeoagaadoor", sum := "23bc0ed42e1a29b036ed7b063d9131a90c5bcba6da46ad7474af40445ebeb877", func := "loop.example/g00421/laws.FnExactPutPath", spec := "fnExactPutPath", inPlace := ["internal/bytealg.CountString", "internal/bytealg.IndexByteString", "internal/bytealg.IndexString", "internal/abi.NoEscape", "internal/bytealg.MakeNoZero"], unfollowed := true, recurses := true, named := ["unicode/utf8.first", "unicode/utf8.acceptRanges", "internal/bytealg.MaxLen"], apart := false, laid := [("unicode/utf8.acceptRanges", laid_unicode_utf8_acceptRanges), ("unicode/utf8.first", laid_unicode_utf8_first)] }
def FnExactPutPathSaid : Prop := fnExactPutPathRow.holds Tryd.pinned (OpenSpec.ofChange fnExactPutPathSpec)

/-- ITS FALSE NEIGHBOUR: 'it returns false'. Refute it at one input. -/
def fnExactPutPathWrong : ChangeSpec := { name := "fnExactPutPath", fn := fun _ => fun
  | [d] => { results := [.lit (.bool false)], args := [d] }
  | _ => none }
def FnExactPutPathWrongFalsely : Prop := fnExactPutPathRow.holds Tryd.pinned (OpenSpec.ofChange fnExactPutPathWrong)

/-- 'laws.FnExactGetPath': WHATEVER THE INPUT: true; the input reads as it did. -/
def fnExactGetPathSpec : ChangeSpec := { name := "fnExactGetPath", fn := fun _ => fun
  | [d] => { results := [.lit (.bool true)], args := [d] }
  | _ => none }
def fnExactGetPathRow : OpenClaim := { program := "ytmfogabkpeoagaadoor", sum := "23bc0ed42e1a29b036ed7b063d9131a90c5bcba6da46ad7474af40445ebeb877", func := "loop.example/g00421/laws.FnExactGetPath", spec := "fnExactGetPath", inPlace := ["internal/bytealg.CountString", "internal/bytealg.IndexByteString", "internal/bytealg.IndexString", "internal/abi.NoEscape", "internal/bytealg.MakeNoZero"], unfollowed := true, recurses := true, named := ["unicode/utf8.first", "unicode/utf8.acceptRanges", "internal/bytealg.MaxLen"], apart := false, laid := [("unicode/utf8.acceptRanges", laid_unicode_utf8_acceptRanges), ("unicode/utf8.first", laid_unicode_utf8_first)] }
def FnExactGetPathSaid : Prop := fnExactGetPathRow.holds Tryd.pinned (OpenSpec.ofChange fnExactGetPathSpec)

/-- ITS FALSE NEIGHBOUR: 'it returns false'. Refute it at one input. -/
def fnExactGetPathWrong : ChangeSpec := { name := "fnExactGetPath", fn := fun _ => fun
  | [d] => { results := [.lit (.bool false)], args := [d] }
  | _ => none }
def FnExactGetPathWrongFalsely : Prop := fnExactGetPathRow.holds Tryd.pinned (OpenSpec.ofChange fnExactGetPathWrong)

/- THE SECOND FORM. 'bulk': how many values and letters a reading holds, each counted each time it is reached (what is shared counts as often as it is met; a slice's spare places count too). A statement '..UptoSaid' is the law's where the arguments, and the package variables that the reading takes, are together of bulk at most 1048576: NARROWER than '..Said'. Prove '..Said' where nothing that the law and all that it calls make is longer than what came in: it says more and counts as full. Else prove '..UptoSaid'. A law counts once. -/
mutual
def uptoBulk {H : Type} : DataW H → Nat
  | .lit (.string bytes) => bytes.length + 1
  | .lit _ => 1
  | .nil => 1
  | .ptr d => uptoBulk d + 1
  | .slice elems spare => uptoBulkAll elems + uptoBulkAll spare + 1
  | .agg parts => uptoBulkAll parts + 1
  | .iface _ d => uptoBulk d + 1
  | .map entries => uptoBulkEntries entries + 1
  | .held _ => 1
def uptoBulkAll {H : Type} : List (DataW H) → Nat
  | [] => 0
  | d :: r => uptoBulk d + uptoBulkAll r
def uptoBulkEntries {H : Type} : List (Lit × DataW H) → Nat
  | [] => 0
  | x :: r => uptoBulkEntry x + uptoBulkEntries r
def uptoBulkEntry {H : Type} : Lit × DataW H → Nat
  | (.string bytes, d) => bytes.length + uptoBulk d + 1
  | (_, d) => uptoBulk d + 1
 end
def uptoSmall : (H : Type) → List (DataW H) → Bool := fun _ ds => decide (uptoBulkAll ds ≤ 1048576)
def OpenSpec.upto (s : _root_.Go.ChangeSpec) : _root_.Go.OpenSpec := { _root_.Go.OpenSpec.ofChange s with cond := some uptoSmall }

/-- 'laws.FnExactGetSign', WHERE WHAT IT READS IS OF BULK AT MOST 1048576: true; the input reads as it did. -/
def fnExactGetSignUptoRow : OpenClaim := { program := "ytmfogabkpeoagaadoor", sum := "23bc0ed42e1a29b036ed7b063d9131a90c5bcba6da46ad7474af40445ebeb877", func := "loop.example/g00421/laws.FnExactGetSign", spec := "fnExactGetSign", named := ["unicode/utf8.first", "unicode/utf8.acceptRanges"], apart := false, laid := [("unicode/utf8.acceptRanges", laid_unicode_utf8_acceptRanges), ("unicode/utf8.first", laid_unicode_utf8_first)], narrowed := true }
def FnExactGetSignUptoSaid : Prop := fnExactGetSignUptoRow.holds Tryd.pinned (OpenSpec.upto fnExactGetSignSpec)

/-- 'laws.FnExactTextOk', WHERE WHAT IT READS IS OF BULK AT MOST 1048576: true; the input reads as it did. -/
def fnExactTextOkUptoRow : OpenClaim := { program := "ytmfogabkpeoagaadoor", sum := "23bc0ed42e1a29b036ed7b063d9131a90c5bcba6da46ad7474af40445ebeb877", func := "loop.example/g00421/laws.FnExactTextOk", spec := "fnExactTextOk", named := ["unicode/utf8.first", "unicode/utf8.acceptRanges"], apart := false, laid := [("unicode/utf8.acceptRanges", laid_unicode_utf8_acceptRanges), ("unicode/utf8.first", laid_unicode_utf8_first)], narrowed := true }
def FnExactTextOkUptoSaid : Prop := fnExactTextOkUptoRow.holds Tryd.pinned (OpenSpec.upto fnExactTextOkSpec)

/-- 'laws.FnExactSigns', WHERE WHAT IT READS IS OF BULK AT MOST 1048576: true; the input reads as it did. -/
def fnExactSignsUptoRow : OpenClaim := { program := "ytmfogabkpeoagaadoor", sum := "23bc0ed42e1a29b036ed7b063d9131a90c5bcba6da46ad7474af40445ebeb877", func := "loop.example/g00421/laws.FnExactSigns", spec := "fnExactSigns", named := ["unicode/utf8.first", "unicode/utf8.acceptRanges"], apart := false, laid := [("unicode/utf8.acceptRanges", laid_unicode_utf8_acceptRanges), ("unicode/utf8.first", laid_unicode_utf8_first)], narrowed := true }
def FnExactSignsUptoSaid : Prop := fnExactSignsUptoRow.holds Tryd.pinned (OpenSpec.upto fnExactSignsSpec)

/-- 'laws.FnExactQuote', WHERE WHAT IT READS IS OF BULK AT MOST 1048576: true; the input reads as it did. -/
def fnExactQuoteUptoRow : OpenClaim := { program := "ytmfogabkpeoagaadoor", sum := "23bc0ed42e1a29b036ed7b063d9131a90c5bcba6da46ad7474af40445ebeb877", func := "loop.example/g00421/laws.FnExactQuote", spec := "fnExactQuote", inPlace := ["internal/bytealg.IndexByteString"], named := ["unicode/utf8.first", "unicode/utf8.acceptRanges"], apart := false, laid := [("unicode/utf8.acceptRanges", laid_unicode_utf8_acceptRanges), ("unicode/utf8.first", laid_unicode_utf8_first)], narrowed := true }
def FnExactQuoteUptoSaid : Prop := fnExactQuoteUptoRow.holds Tryd.pinned (OpenSpec.upto fnExactQuoteSpec)

/-- 'laws.FnExactWords', WHERE WHAT IT READS IS OF BULK AT MOST 1048576: true; the input reads as it did. -/
def fnExactWordsUptoRow : OpenClaim := { program := "ytmfogabkpeoagaadoor", sum := "23bc0ed42e1a29b036ed7b063d9131a90c5bcba6da46ad7474af40445ebeb877", func := "loop.example/g00421/laws.FnExactWords", spec := "fnExactWords", inPlace := ["internal/bytealg.CountString", "internal/bytealg.IndexByteString", "internal/bytealg.IndexString"], named := ["unicode/utf8.first", "unicode/utf8.acceptRanges", "internal/bytealg.MaxLen"], apart := false, laid := [("unicode/utf8.acceptRanges", laid_unicode_utf8_acceptRanges), ("unicode/utf8.first", laid_unicode_utf8_first)], narrowed := true }
def FnExactWordsUptoSaid : Prop := fnExactWordsUptoRow.holds Tryd.pinned (OpenSpec.upto fnExactWordsSpec)

/-- 'laws.FnExactUnquote', WHERE WHAT IT READS IS OF BULK AT MOST 1048576: true; the input reads as it did. -/
def fnExactUnquoteUptoRow : OpenClaim := { program := "ytmfogabkpeoagaadoor", sum := "23bc0ed42e1a29b036ed7b063d9131a90c5bcba6da46ad7474af40445ebeb877", func := "loop.example/g00421/laws.FnExactUnquote", spec := "fnExactUnquote", inPlace := ["internal/bytealg.IndexByteString", "internal/abi.NoEscape", "internal/bytealg.MakeNoZero"], unfollowed := true, recurses := true, named := ["unicode/utf8.first", "unicode/utf8.acceptRanges", "unicode.CaseRanges"], apart := false, laid := [("unicode/utf8.acceptRanges", laid_unicode_utf8_acceptRanges), ("unicode.CaseRanges", laid_unicode_CaseRanges), ("unicode/utf8.first", laid_unicode_utf8_first)], narrowed := true }
def FnExactUnquoteUptoSaid : Prop := fnExactUnquoteUptoRow.holds Tryd.pinned (OpenSpec.upto fnExactUnquoteSpec)

/-- 'laws.FnSigns', WHERE WHAT IT READS IS OF BULK AT MOST 1048576: true; the input reads as it did. -/
def fnSignsUptoRow : OpenClaim := { program := "ytmfogabkpeoagaadoor", sum := "23bc0ed42e1a29b036ed7b063d9131a90c5bcba6da46ad7474af40445ebeb877", func := "loop.example/g00421/laws.FnSigns", spec := "fnSigns", named := ["unicode/utf8.first", "unicode/utf8.acceptRanges"], apart := false, laid := [("unicode/utf8.acceptRanges", laid_unicode_utf8_acceptRanges), ("unicode/utf8.first", laid_unicode_utf8_first)], narrowed := true }
def FnSignsUptoSaid : Prop := fnSignsUptoRow.holds Tryd.pinned (OpenSpec.upto fnSignsSpec)

/-- 'laws.FnExactPutPath', WHERE WHAT IT READS IS OF BULK AT MOST 1048576: true; the input reads as it did. -/
def fnExactPutPathUptoRow : OpenClaim := { program := "ytmfogabkpeoagaadoor", sum := "23bc0ed42e1a29b036ed7b063d9131a90c5bcba6da46ad7474af40445ebeb877", func := "loop.example/g00421/laws.FnExactPutPath", spec := "fnExactPutPath", inPlace := ["internal/bytealg.CountString", "internal/bytealg.IndexByteString", "internal/bytealg.IndexString", "internal/abi.NoEscape", "internal/bytealg.MakeNoZero"], unfollowed := true, recurses := true, named := ["unicode/utf8.first", "unicode/utf8.acceptRanges", "internal/bytealg.MaxLen"], apart := false, laid := [("unicode/utf8.acceptRanges", laid_unicode_utf8_acceptRanges), ("unicode/utf8.first", laid_unicode_utf8_first)], narrowed := true }
def FnExactPutPathUptoSaid : Prop := fnExactPutPathUptoRow.holds Tryd.pinned (OpenSpec.upto fnExactPutPathSpec)

/-- 'laws.FnExactGetPath', WHERE WHAT IT READS IS OF BULK AT MOST 1048576: true; the input reads as it did. -/
def fnExactGetPathUptoRow : OpenClaim := { program := "ytmfogabkpeoagaadoor", sum := "23bc0ed42e1a29b036ed7b063d9131a90c5bcba6da46ad7474af40445ebeb877", func := "loop.example/g00421/laws.FnExactGetPath", spec := "fnExactGetPath", inPlace := ["internal/bytealg.CountString", "internal/bytealg.IndexByteString", "internal/bytealg.IndexString", "internal/abi.NoEscape", "internal/bytealg.MakeNoZero"], unfollowed := true, recurses := true, named := ["unicode/utf8.first", "unicode/utf8.acceptRanges", "internal/bytealg.MaxLen"], apart := false, laid := [("unicode/utf8.acceptRanges", laid_unicode_utf8_acceptRanges), ("unicode/utf8.first", laid_unicode_utf8_first)], narrowed := true }
def FnExactGetPathUptoSaid : Prop := fnExactGetPathUptoRow.holds Tryd.pinned (OpenSpec.upto fnExactGetPathSpec)

end Rows
end Go.Proofs.YtmfogabkpeoagaaDoor

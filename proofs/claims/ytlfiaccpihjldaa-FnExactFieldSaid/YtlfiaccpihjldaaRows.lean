/-
  NARROWER THAN 'FOR EVERY INPUT', by the rows' own cells (each row's printed sentence says how): FnExactCount: loops · FnExactSame: loops · FnExactKeys: loops · FnExactStrings: loops · FnExactCompare: loops · FnExactField: loops.
  DERIVED. THE GIVEN ROWS OF THIS SEAT. 6 by the template 'for every input the law returns true; each argument reads behind the call as it read before'; 0 by the template 'total and deterministic' (their statements: YtlfiaccpihjldaaTotals.lean).
  GIVEN WITH THE SEED: the statements are not yours to turn. If you find one false, say at which input.
  Laid BY PROGRAM, IN A SANDBOX (cutbox-rows.mjs): the forced cells as the released guide's own fill.sh prints them over the translation 76fb75a79e9ad4f5… (all of the seat's roots in one cut). By AI agents, Wed Nov 11 2026. No macro, syntax, notation, axiom, sorry.
-/
import Derived.Test.YtlfiaccpihjldaaChecked
import GoSem.Claim
import GoSem.ClaimJoined
import GoSem.ClaimMapViews
import Derived.JoinedTies
import Derived.KernelRfl
namespace Go.Proofs.Ytlfiaccpihjldaa
/- THE CELL 'sum', in the pinned program and in every row, IS THE sha256 OF THE DUMP (.gsa) THAT YtlfiaccpihjldaaProg.lean LOADS. Nothing in Lean hashes anything: it is a label: what it is worth is what the hold of that sum in a sandbox is worth. -/
noncomputable def Try.pinned : Pinned := { name := "ytlfiaccpihjldaa", sum := "76fb75a79e9ad4f5c5a8bc816b834f0e817d0d9290ffef9e8940b41060d6f549", checked := Try.checked }
namespace Rows
def none {H : Type} : Left H := { results := [], args := [] }

/-- 'laws.FnExactCount': WHATEVER THE INPUT: true; the input reads as it did. -/
def fnExactCountSpec : ChangeSpec := { name := "fnExactCount", fn := fun _ => fun
  | [d1, d2] => { results := [.lit (.bool true)], args := [d1, d2] }
  | _ => none }
def fnExactCountRow : OpenClaim := { program := "ytlfiaccpihjldaa", sum := "76fb75a79e9ad4f5c5a8bc816b834f0e817d0d9290ffef9e8940b41060d6f549", func := "loop.example/g00421/laws.FnExactCount", spec := "fnExactCount", unfollowed := true, recurses := true, loops := true, apart := false }
def FnExactCountSaid : Prop := fnExactCountRow.holds Try.pinned (OpenSpec.ofChange fnExactCountSpec)

/-- ITS FALSE NEIGHBOUR: 'it returns false'. Refute it at one input. -/
def fnExactCountWrong : ChangeSpec := { name := "fnExactCount", fn := fun _ => fun
  | [d1, d2] => { results := [.lit (.bool false)], args := [d1, d2] }
  | _ => none }
def FnExactCountWrongFalsely : Prop := fnExactCountRow.holds Try.pinned (OpenSpec.ofChange fnExactCountWrong)

/-- 'laws.FnExactSame': WHATEVER THE INPUT: true; the input reads as it did. -/
def fnExactSameSpec : ChangeSpec := { name := "fnExactSame", fn := fun _ => fun
  | [d1, d2] => { results := [.lit (.bool true)], args := [d1, d2] }
  | _ => none }
def fnExactSameRow : OpenClaim := { program := "ytlfiaccpihjldaa", sum := "76fb75a79e9ad4f5c5a8bc816b834f0e817d0d9290ffef9e8940b41060d6f549", func := "loop.example/g00421/laws.FnExactSame", spec := "fnExactSame", unfollowed := true, recurses := true, loops := true, apart := false }
def FnExactSameSaid : Prop := fnExactSameRow.holds Try.pinned (OpenSpec.ofChange fnExactSameSpec)

/-- ITS FALSE NEIGHBOUR: 'it returns false'. Refute it at one input. -/
def fnExactSameWrong : ChangeSpec := { name := "fnExactSame", fn := fun _ => fun
  | [d1, d2] => { results := [.lit (.bool false)], args := [d1, d2] }
  | _ => none }
def FnExactSameWrongFalsely : Prop := fnExactSameRow.holds Try.pinned (OpenSpec.ofChange fnExactSameWrong)

/-- 'laws.FnExactKeys': WHATEVER THE INPUT: true; the input reads as it did. -/
def fnExactKeysSpec : ChangeSpec := { name := "fnExactKeys", fn := fun _ => fun
  | [d] => { results := [.lit (.bool true)], args := [d] }
  | _ => none }
def fnExactKeysRow : OpenClaim := { program := "ytlfiaccpihjldaa", sum := "76fb75a79e9ad4f5c5a8bc816b834f0e817d0d9290ffef9e8940b41060d6f549", func := "loop.example/g00421/laws.FnExactKeys", spec := "fnExactKeys", recurses := true, loops := true, apart := false }
def FnExactKeysSaid : Prop := fnExactKeysRow.holds Try.pinned (OpenSpec.ofChange fnExactKeysSpec)

/-- ITS FALSE NEIGHBOUR: 'it returns false'. Refute it at one input. -/
def fnExactKeysWrong : ChangeSpec := { name := "fnExactKeys", fn := fun _ => fun
  | [d] => { results := [.lit (.bool false)], args := [d] }
  | _ => none }
def FnExactKeysWrongFalsely : Prop := fnExactKeysRow.holds Try.pinned (OpenSpec.ofChange fnExactKeysWrong)

/-- 'laws.FnExactStrings': WHATEVER THE INPUT: true; the input reads as it did. -/
def fnExactStringsSpec : ChangeSpec := { name := "fnExactStrings", fn := fun _ => fun
  | [d] => { results := [.lit (.bool true)], args := [d] }
  | _ => none }
def fnExactStringsRow : OpenClaim := { program := "ytlfiaccpihjldaa", sum := "76fb75a79e9ad4f5c5a8bc816b834f0e817d0d9290ffef9e8940b41060d6f549", func := "loop.example/g00421/laws.FnExactStrings", spec := "fnExactStrings", unfollowed := true, recurses := true, loops := true, apart := false }
def FnExactStringsSaid : Prop := fnExactStringsRow.holds Try.pinned (OpenSpec.ofChange fnExactStringsSpec)

/-- ITS FALSE NEIGHBOUR: 'it returns false'. Refute it at one input. -/
def fnExactStringsWrong : ChangeSpec := { name := "fnExactStrings", fn := fun _ => fun
  | [d] => { results := [.lit (.bool false)], args := [d] }
  | _ => none }
def FnExactStringsWrongFalsely : Prop := fnExactStringsRow.holds Try.pinned (OpenSpec.ofChange fnExactStringsWrong)

/-- 'laws.FnExactCompare': WHATEVER THE INPUT: true; the input reads as it did. -/
def fnExactCompareSpec : ChangeSpec := { name := "fnExactCompare", fn := fun _ => fun
  | [d1, d2] => { results := [.lit (.bool true)], args := [d1, d2] }
  | _ => none }
def fnExactCompareRow : OpenClaim := { program := "ytlfiaccpihjldaa", sum := "76fb75a79e9ad4f5c5a8bc816b834f0e817d0d9290ffef9e8940b41060d6f549", func := "loop.example/g00421/laws.FnExactCompare", spec := "fnExactCompare", unfollowed := true, recurses := true, loops := true, apart := false }
def FnExactCompareSaid : Prop := fnExactCompareRow.holds Try.pinned (OpenSpec.ofChange fnExactCompareSpec)

/-- ITS FALSE NEIGHBOUR: 'it returns false'. Refute it at one input. -/
def fnExactCompareWrong : ChangeSpec := { name := "fnExactCompare", fn := fun _ => fun
  | [d1, d2] => { results := [.lit (.bool false)], args := [d1, d2] }
  | _ => none }
def FnExactCompareWrongFalsely : Prop := fnExactCompareRow.holds Try.pinned (OpenSpec.ofChange fnExactCompareWrong)

/-- 'laws.FnExactField': WHATEVER THE INPUT: true; the input reads as it did. -/
def fnExactFieldSpec : ChangeSpec := { name := "fnExactField", fn := fun _ => fun
  | [d1, d2] => { results := [.lit (.bool true)], args := [d1, d2] }
  | _ => none }
def fnExactFieldRow : OpenClaim := { program := "ytlfiaccpihjldaa", sum := "76fb75a79e9ad4f5c5a8bc816b834f0e817d0d9290ffef9e8940b41060d6f549", func := "loop.example/g00421/laws.FnExactField", spec := "fnExactField", recurses := true, loops := true, apart := false }
def FnExactFieldSaid : Prop := fnExactFieldRow.holds Try.pinned (OpenSpec.ofChange fnExactFieldSpec)

/-- ITS FALSE NEIGHBOUR: 'it returns false'. Refute it at one input. -/
def fnExactFieldWrong : ChangeSpec := { name := "fnExactField", fn := fun _ => fun
  | [d1, d2] => { results := [.lit (.bool false)], args := [d1, d2] }
  | _ => none }
def FnExactFieldWrongFalsely : Prop := fnExactFieldRow.holds Try.pinned (OpenSpec.ofChange fnExactFieldWrong)

/- THE SECOND FORM. 'bulk': how many values and letters a reading holds, each counted each time it is reached (what is shared counts as often as it is met; a slice's spare places count too). A statement '..UptoSaid' is the law's where the arguments, and the package variables that the reading takes, are together of bulk at most 1048576: NARROWER than '..Said'. Prove '..Said' where nothing that the law and all that it calls make is longer than what came in: it says more and counts as full. Else prove '..UptoSaid'. A law counts once. -/
mutual
def uptoBulk {H : Type} : DataW H → Nat
  | .lit (.string bytes) => bytes.length + 1
  | .lit _ => 1
  | .nil => 1
  | .ptr d => uptoBulk d + 1
  | .slice elems spare => uptoBulkAll elems + uptoBulkAll spare + 1
  | .agg parts => uptoBulkAll parts + 1
  | .iface _ d => uptoBulk d + 1
  | .map entries => uptoBulkEntries entries + 1
  | .held _ => 1
def uptoBulkAll {H : Type} : List (DataW H) → Nat
  | [] => 0
  | d :: r => uptoBulk d + uptoBulkAll r
def uptoBulkEntries {H : Type} : List (Lit × DataW H) → Nat
  | [] => 0
  | x :: r => uptoBulkEntry x + uptoBulkEntries r
def uptoBulkEntry {H : Type} : Lit × DataW H → Nat
  | (.string bytes, d) => bytes.length + uptoBulk d + 1
  | (_, d) => uptoBulk d + 1
 end
def uptoSmall : (H : Type) → List (DataW H) → Bool := fun _ ds => decide (uptoBulkAll ds ≤ 1048576)
def OpenSpec.upto (s : _root_.Go.ChangeSpec) : _root_.Go.OpenSpec := { _root_.Go.OpenSpec.ofChange s with cond := some uptoSmall }

/-- 'laws.FnExactCount', WHERE WHAT IT READS IS OF BULK AT MOST 1048576: true; the input reads as it did. -/
def fnExactCountUptoRow : OpenClaim := { program := "ytlfiaccpihjldaa", sum := "76fb75a79e9ad4f5c5a8bc816b834f0e817d0d9290ffef9e8940b41060d6f549", func := "loop.example/g00421/laws.FnExactCount", spec := "fnExactCount", unfollowed := true, recurses := true, loops := true, apart := false, narrowed := true }
def FnExactCountUptoSaid : Prop := fnExactCountUptoRow.holds Try.pinned (OpenSpec.upto fnExactCountSpec)

/-- 'laws.FnExactSame', WHERE WHAT IT READS IS OF BULK AT MOST 1048576: true; the input reads as it did. -/
def fnExactSameUptoRow : OpenClaim := { program := "ytlfiaccpihjldaa", sum := "76fb75a79e9ad4f5c5a8bc816b834f0e817d0d9290ffef9e8940b41060d6f549", func := "loop.example/g00421/laws.FnExactSame", spec := "fnExactSame", unfollowed := true, recurses := true, loops := true, apart := false, narrowed := true }
def FnExactSameUptoSaid : Prop := fnExactSameUptoRow.holds Try.pinned (OpenSpec.upto fnExactSameSpec)

/-- 'laws.FnExactKeys', WHERE WHAT IT READS IS OF BULK AT MOST 1048576: true; the input reads as it did. -/
def fnExactKeysUptoRow : OpenClaim := { program := "ytlfiaccpihjldaa", sum := "76fb75a79e9ad4f5c5a8bc816b834f0e817d0d9290ffef9e8940b41060d6f549", func := "loop.example/g00421/laws.FnExactKeys", spec := "fnExactKeys", recurses := true, loops := true, apart := false, narrowed := true }
def FnExactKeysUptoSaid : Prop := fnExactKeysUptoRow.holds Try.pinned (OpenSpec.upto fnExactKeysSpec)

/-- 'laws.FnExactStrings', WHERE WHAT IT READS IS OF BULK AT MOST 1048576: true; the input reads as it did. -/
def fnExactStringsUptoRow : OpenClaim := { program := "ytlfiaccpihjldaa", sum := "76fb75a79e9ad4f5c5a8bc816b834f0e817d0d9290ffef9e8940b41060d6f549", func := "loop.example/g00421/laws.FnExactStrings", spec := "fnExactStrings", unfollowed := true, recurses := true, loops := true, apart := false, narrowed := true }
def FnExactStringsUptoSaid : Prop := fnExactStringsUptoRow.holds Try.pinned (OpenSpec.upto fnExactStringsSpec)

/-- 'laws.FnExactCompare', WHERE WHAT IT READS IS OF BULK AT MOST 1048576: true; the input reads as it did. -/
def fnExactCompareUptoRow : OpenClaim := { program := "ytlfiaccpihjldaa", sum := "76fb75a79e9ad4f5c5a8bc816b834f0e817d0d9290ffef9e8940b41060d6f549", func := "loop.example/g00421/laws.FnExactCompare", spec := "fnExactCompare", unfollowed := true, recurses := true, loops := true, apart := false, narrowed := true }
def FnExactCompareUptoSaid : Prop := fnExactCompareUptoRow.holds Try.pinned (OpenSpec.upto fnExactCompareSpec)

/-- 'laws.FnExactField', WHERE WHAT IT READS IS OF BULK AT MOST 1048576: true; the input reads as it did. -/
def fnExactFieldUptoRow : OpenClaim := { program := "ytlfiaccpihjldaa", sum := "76fb75a79e9ad4f5c5a8bc816b834f0e817d0d9290ffef9e8940b41060d6f549", func := "loop.example/g00421/laws.FnExactField", spec := "fnExactField", recurses := true, loops := true, apart := false, narrowed := true }
def FnExactFieldUptoSaid : Prop := fnExactFieldUptoRow.holds Try.pinned (OpenSpec.upto fnExactFieldSpec)

end Rows
end Go.Proofs.Ytlfiaccpihjldaa

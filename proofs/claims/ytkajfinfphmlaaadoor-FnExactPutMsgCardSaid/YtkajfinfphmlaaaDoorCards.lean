/-
  DERIVED. GIVEN WITH THE SEED: THE CARDS: each row of YtkajfinfphmlaaaDoorRows.lean that lists a variable, with what it lists TIED to the program's text (the seventh form; the later family's looks); each row that meets fmt, with fmt's text TOLD by the authors' own Lean function (tested against real Go, not proved from fmt's source: count such statements apart). THE CARD IS WHAT COUNTS. Prove the row's statement (the work); the ties are given (YtkajfinfphmlaaaDoorTie.lean); close each card by the builder's one call (the guide's Derived/Test/ToyasCard.lean, 'card_holds'). Laid BY PROGRAM, IN A SANDBOX (cutbox-door.mjs). By AI agents, Wed Nov 11 2026. No macro, syntax, notation, axiom, sorry.
-/
import Derived.Test.YtkajfinfphmlaaaDoorRows
import GoSem.ClaimSeven
namespace Go.Proofs.YtkajfinfphmlaaaDoor
namespace Rows

/-- THE TIED CARD OF 'laws.FnExactPutMsg'. -/
def fnExactPutMsgCard : Claim7 := { stood := { row := fnExactPutMsgRow, standIns := [], harness := (true, "a41fef000cd22bfb8f0490f8e462dd5c8d45605f3632a5a6a27bd95705f91c90"), looks := false }, kinds := [], alts := [], laidByText := true, laidKinds := [.data, .pinned], laidTests := true, laidLooks := .later }
def FnExactPutMsgCardSaid : Prop := Claim7.holds Tryd.pinned (.plain (OpenSpec.ofChange fnExactPutMsgSpec)) fnExactPutMsgCard

/-- THE TIED CARD OF 'laws.FnExactPutCbor'. -/
def fnExactPutCborCard : Claim7 := { stood := { row := fnExactPutCborRow, standIns := [], harness := (true, "a41fef000cd22bfb8f0490f8e462dd5c8d45605f3632a5a6a27bd95705f91c90"), looks := false }, kinds := [], alts := [], laidByText := true, laidKinds := [.data, .pinned], laidTests := true, laidLooks := .later }
def FnExactPutCborCardSaid : Prop := Claim7.holds Tryd.pinned (.plain (OpenSpec.ofChange fnExactPutCborSpec)) fnExactPutCborCard

/-- THE TIED CARD OF 'laws.FnExactMsgSize'. -/
def fnExactMsgSizeCard : Claim7 := { stood := { row := fnExactMsgSizeRow, standIns := [], harness := (true, "a41fef000cd22bfb8f0490f8e462dd5c8d45605f3632a5a6a27bd95705f91c90"), looks := false }, kinds := [], alts := [], laidByText := true, laidKinds := [.data, .pinned], laidTests := true, laidLooks := .later }
def FnExactMsgSizeCardSaid : Prop := Claim7.holds Tryd.pinned (.plain (OpenSpec.ofChange fnExactMsgSizeSpec)) fnExactMsgSizeCard

/-- THE TIED CARD OF 'laws.FnExactCborSize'. -/
def fnExactCborSizeCard : Claim7 := { stood := { row := fnExactCborSizeRow, standIns := [], harness := (true, "a41fef000cd22bfb8f0490f8e462dd5c8d45605f3632a5a6a27bd95705f91c90"), looks := false }, kinds := [], alts := [], laidByText := true, laidKinds := [.data, .pinned], laidTests := true, laidLooks := .later }
def FnExactCborSizeCardSaid : Prop := Claim7.holds Tryd.pinned (.plain (OpenSpec.ofChange fnExactCborSizeSpec)) fnExactCborSizeCard

/-- THE SECOND FORM's CARD OF 'laws.FnExactPutMsg'. -/
def fnExactPutMsgUptoCard : Claim7 := { stood := { row := fnExactPutMsgUptoRow, standIns := [], harness := (true, "a41fef000cd22bfb8f0490f8e462dd5c8d45605f3632a5a6a27bd95705f91c90"), looks := false }, kinds := [], alts := [], laidByText := true, laidKinds := [.data, .pinned], laidTests := true, laidLooks := .later }
def FnExactPutMsgUptoCardSaid : Prop := Claim7.holds Tryd.pinned (.plain (OpenSpec.upto fnExactPutMsgSpec)) fnExactPutMsgUptoCard

/-- THE SECOND FORM's CARD OF 'laws.FnExactPutCbor'. -/
def fnExactPutCborUptoCard : Claim7 := { stood := { row := fnExactPutCborUptoRow, standIns := [], harness := (true, "a41fef000cd22bfb8f0490f8e462dd5c8d45605f3632a5a6a27bd95705f91c90"), looks := false }, kinds := [], alts := [], laidByText := true, laidKinds := [.data, .pinned], laidTests := true, laidLooks := .later }
def FnExactPutCborUptoCardSaid : Prop := Claim7.holds Tryd.pinned (.plain (OpenSpec.upto fnExactPutCborSpec)) fnExactPutCborUptoCard

/-- THE SECOND FORM's CARD OF 'laws.FnExactMsgSize'. -/
def fnExactMsgSizeUptoCard : Claim7 := { stood := { row := fnExactMsgSizeUptoRow, standIns := [], harness := (true, "a41fef000cd22bfb8f0490f8e462dd5c8d45605f3632a5a6a27bd95705f91c90"), looks := false }, kinds := [], alts := [], laidByText := true, laidKinds := [.data, .pinned], laidTests := true, laidLooks := .later }
def FnExactMsgSizeUptoCardSaid : Prop := Claim7.holds Tryd.pinned (.plain (OpenSpec.upto fnExactMsgSizeSpec)) fnExactMsgSizeUptoCard

/-- THE SECOND FORM's CARD OF 'laws.FnExactCborSize'. -/
def fnExactCborSizeUptoCard : Claim7 := { stood := { row := fnExactCborSizeUptoRow, standIns := [], harness := (true, "a41fef000cd22bfb8f0490f8e462dd5c8d45605f3632a5a6a27bd95705f91c90"), looks := false }, kinds := [], alts := [], laidByText := true, laidKinds := [.data, .pinned], laidTests := true, laidLooks := .later }
def FnExactCborSizeUptoCardSaid : Prop := Claim7.holds Tryd.pinned (.plain (OpenSpec.upto fnExactCborSizeSpec)) fnExactCborSizeUptoCard
end Rows
end Go.Proofs.YtkajfinfphmlaaaDoor

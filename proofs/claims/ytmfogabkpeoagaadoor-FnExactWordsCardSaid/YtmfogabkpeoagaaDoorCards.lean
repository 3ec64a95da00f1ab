/-
  DERIVED. GIVEN WITH THE SEED: THE CARDS: each row of YtmfogabkpeoagaaDoorRows.lean that lists a variable, with what it lists TIED to the program's text (the seventh form; the later family's looks); each row that meets fmt, with fmt's text TOLD by the authors' own Lean function (tested against real Go, not proved from fmt's source: count such statements apart). THE CARD IS WHAT COUNTS. Prove the row's statement (the work); the ties are given (YtmfogabkpeoagaaDoorTie.lean); close each card by the builder's one call (the guide's Derived/Test/ToyasCard.lean, 'card_holds'). Laid BY PROGRAM, IN A SANDBOX (cutbox-door.mjs). By AI agents, Wed Nov 11 2026. No macro, syntax, notation, axiom, sorry.
-/
import Derived.Test.YtmfogabkpeoagaaDoorRows
import GoSem.ClaimSeven
namespace Go.Proofs.YtmfogabkpeoagaaDoor
namespace Rows

/-- THE TIED CARD OF 'laws.FnExactGetSign'. -/
def fnExactGetSignCard : Claim7 := { stood := { row := fnExactGetSignRow, standIns := [], harness := (true, "f601e2303ac4fca78973ef4074a15544ec384bf70aab85abaf06874630a46614"), looks := false }, kinds := [], alts := [], laidByText := true, laidKinds := [.data, .pinned], laidTests := true, laidLooks := .later }
def FnExactGetSignCardSaid : Prop := Claim7.holds Tryd.pinned (.plain (OpenSpec.ofChange fnExactGetSignSpec)) fnExactGetSignCard

/-- THE TIED CARD OF 'laws.FnExactTextOk'. -/
def fnExactTextOkCard : Claim7 := { stood := { row := fnExactTextOkRow, standIns := [], harness := (true, "f601e2303ac4fca78973ef4074a15544ec384bf70aab85abaf06874630a46614"), looks := false }, kinds := [], alts := [], laidByText := true, laidKinds := [.data, .pinned], laidTests := true, laidLooks := .later }
def FnExactTextOkCardSaid : Prop := Claim7.holds Tryd.pinned (.plain (OpenSpec.ofChange fnExactTextOkSpec)) fnExactTextOkCard

/-- THE TIED CARD OF 'laws.FnExactSigns'. -/
def fnExactSignsCard : Claim7 := { stood := { row := fnExactSignsRow, standIns := [], harness := (true, "f601e2303ac4fca78973ef4074a15544ec384bf70aab85abaf06874630a46614"), looks := false }, kinds := [], alts := [], laidByText := true, laidKinds := [.data, .pinned], laidTests := true, laidLooks := .later }
def FnExactSignsCardSaid : Prop := Claim7.holds Tryd.pinned (.plain (OpenSpec.ofChange fnExactSignsSpec)) fnExactSignsCard

/-- THE TIED CARD OF 'laws.FnExactQuote'. -/
def fnExactQuoteCard : Claim7 := { stood := { row := fnExactQuoteRow, standIns := [], harness := (true, "f601e2303ac4fca78973ef4074a15544ec384bf70aab85abaf06874630a46614"), looks := false }, kinds := [], alts := [], laidByText := true, laidKinds := [.data, .pinned], laidTests := true, laidLooks := .later }
def FnExactQuoteCardSaid : Prop := Claim7.holds Tryd.pinned (.plain (OpenSpec.ofChange fnExactQuoteSpec)) fnExactQuoteCard

/-- THE TIED CARD OF 'laws.FnExactWords'. -/
def fnExactWordsCard : Claim7 := { stood := { row := fnExactWordsRow, standIns := [], harness := (true, "f601e2303ac4fca78973ef4074a15544ec384bf70aab85abaf06874630a46614"), looks := false }, kinds := [], alts := [], laidByText := true, laidKinds := [.data, .pinned], laidTests := true, laidLooks := .later }
def FnExactWordsCardSaid : Prop := Claim7.holds Tryd.pinned (.plain (OpenSpec.ofChange fnExactWordsSpec)) fnExactWordsCard

/-- THE TIED CARD OF 'laws.FnExactUnquote'. -/
def fnExactUnquoteCard : Claim7 := { stood := { row := fnExactUnquoteRow, standIns := [], harness := (true, "f601e2303ac4fca78973ef4074a15544ec384bf70aab85abaf06874630a46614"), looks := false }, kinds := [], alts := [], laidByText := true, laidKinds := [.data, .pinned, .pinned], laidTests := true, laidLooks := .later }
def FnExactUnquoteCardSaid : Prop := Claim7.holds Tryd.pinned (.plain (OpenSpec.ofChange fnExactUnquoteSpec)) fnExactUnquoteCard

/-- THE TIED CARD OF 'laws.FnSigns'. -/
def fnSignsCard : Claim7 := { stood := { row := fnSignsRow, standIns := [], harness := (true, "f601e2303ac4fca78973ef4074a15544ec384bf70aab85abaf06874630a46614"), looks := false }, kinds := [], alts := [], laidByText := true, laidKinds := [.data, .pinned], laidTests := true, laidLooks := .later }
def FnSignsCardSaid : Prop := Claim7.holds Tryd.pinned (.plain (OpenSpec.ofChange fnSignsSpec)) fnSignsCard

/-- THE TIED CARD OF 'laws.FnExactPutPath'. -/
def fnExactPutPathCard : Claim7 := { stood := { row := fnExactPutPathRow, standIns := [], harness := (true, "f601e2303ac4fca78973ef4074a15544ec384bf70aab85abaf06874630a46614"), looks := false }, kinds := [], alts := [], laidByText := true, laidKinds := [.data, .pinned], laidTests := true, laidLooks := .later }
def FnExactPutPathCardSaid : Prop := Claim7.holds Tryd.pinned (.plain (OpenSpec.ofChange fnExactPutPathSpec)) fnExactPutPathCard

/-- THE TIED CARD OF 'laws.FnExactGetPath'. -/
def fnExactGetPathCard : Claim7 := { stood := { row := fnExactGetPathRow, standIns := [], harness := (true, "f601e2303ac4fca78973ef4074a15544ec384bf70aab85abaf06874630a46614"), looks := false }, kinds := [], alts := [], laidByText := true, laidKinds := [.data, .pinned], laidTests := true, laidLooks := .later }
def FnExactGetPathCardSaid : Prop := Claim7.holds Tryd.pinned (.plain (OpenSpec.ofChange fnExactGetPathSpec)) fnExactGetPathCard

/-- THE SECOND FORM's CARD OF 'laws.FnExactGetSign'. -/
def fnExactGetSignUptoCard : Claim7 := { stood := { row := fnExactGetSignUptoRow, standIns := [], harness := (true, "f601e2303ac4fca78973ef4074a15544ec384bf70aab85abaf06874630a46614"), looks := false }, kinds := [], alts := [], laidByText := true, laidKinds := [.data, .pinned], laidTests := true, laidLooks := .later }
def FnExactGetSignUptoCardSaid : Prop := Claim7.holds Tryd.pinned (.plain (OpenSpec.upto fnExactGetSignSpec)) fnExactGetSignUptoCard

/-- THE SECOND FORM's CARD OF 'laws.FnExactTextOk'. -/
def fnExactTextOkUptoCard : Claim7 := { stood := { row := fnExactTextOkUptoRow, standIns := [], harness := (true, "f601e2303ac4fca78973ef4074a15544ec384bf70aab85abaf06874630a46614"), looks := false }, kinds := [], alts := [], laidByText := true, laidKinds := [.data, .pinned], laidTests := true, laidLooks := .later }
def FnExactTextOkUptoCardSaid : Prop := Claim7.holds Tryd.pinned (.plain (OpenSpec.upto fnExactTextOkSpec)) fnExactTextOkUptoCard

/-- THE SECOND FORM's CARD OF 'laws.FnExactSigns'. -/
def fnExactSignsUptoCard : Claim7 := { stood := { row := fnExactSignsUptoRow, standIns := [], harness := (true, "f601e2303ac4fca78973ef4074a15544ec384bf70aab85abaf06874630a46614"), looks := false }, kinds := [], alts := [], laidByText := true, laidKinds := [.data, .pinned], laidTests := true, laidLooks := .later }
def FnExactSignsUptoCardSaid : Prop := Claim7.holds Tryd.pinned (.plain (OpenSpec.upto fnExactSignsSpec)) fnExactSignsUptoCard

/-- THE SECOND FORM's CARD OF 'laws.FnExactQuote'. -/
def fnExactQuoteUptoCard : Claim7 := { stood := { row := fnExactQuoteUptoRow, standIns := [], harness := (true, "f601e2303ac4fca78973ef4074a15544ec384bf70aab85abaf06874630a46614"), looks := false }, kinds := [], alts := [], laidByText := true, laidKinds := [.data, .pinned], laidTests := true, laidLooks := .later }
def FnExactQuoteUptoCardSaid : Prop := Claim7.holds Tryd.pinned (.plain (OpenSpec.upto fnExactQuoteSpec)) fnExactQuoteUptoCard

/-- THE SECOND FORM's CARD OF 'laws.FnExactWords'. -/
def fnExactWordsUptoCard : Claim7 := { stood := { row := fnExactWordsUptoRow, standIns := [], harness := (true, "f601e2303ac4fca78973ef4074a15544ec384bf70aab85abaf06874630a46614"), looks := false }, kinds := [], alts := [], laidByText := true, laidKinds := [.data, .pinned], laidTests := true, laidLooks := .later }
def FnExactWordsUptoCardSaid : Prop := Claim7.holds Tryd.pinned (.plain (OpenSpec.upto fnExactWordsSpec)) fnExactWordsUptoCard

/-- THE SECOND FORM's CARD OF 'laws.FnExactUnquote'. -/
def fnExactUnquoteUptoCard : Claim7 := { stood := { row := fnExactUnquoteUptoRow, standIns := [], harness := (true, "f601e2303ac4fca78973ef4074a15544ec384bf70aab85abaf06874630a46614"), looks := false }, kinds := [], alts := [], laidByText := true, laidKinds := [.data, .pinned, .pinned], laidTests := true, laidLooks := .later }
def FnExactUnquoteUptoCardSaid : Prop := Claim7.holds Tryd.pinned (.plain (OpenSpec.upto fnExactUnquoteSpec)) fnExactUnquoteUptoCard

/-- THE SECOND FORM's CARD OF 'laws.FnSigns'. -/
def fnSignsUptoCard : Claim7 := { stood := { row := fnSignsUptoRow, standIns := [], harness := (true, "f601e2303ac4fca78973ef4074a15544ec384bf70aab85abaf06874630a46614"), looks := false }, kinds := [], alts := [], laidByText := true, laidKinds := [.data, .pinned], laidTests := true, laidLooks := .later }
def FnSignsUptoCardSaid : Prop := Claim7.holds Tryd.pinned (.plain (OpenSpec.upto fnSignsSpec)) fnSignsUptoCard

/-- THE SECOND FORM's CARD OF 'laws.FnExactPutPath'. -/
def fnExactPutPathUptoCard : Claim7 := { stood := { row := fnExactPutPathUptoRow, standIns := [], harness := (true, "f601e2303ac4fca78973ef4074a15544ec384bf70aab85abaf06874630a46614"), looks := false }, kinds := [], alts := [], laidByText := true, laidKinds := [.data, .pinned], laidTests := true, laidLooks := .later }
def FnExactPutPathUptoCardSaid : Prop := Claim7.holds Tryd.pinned (.plain (OpenSpec.upto fnExactPutPathSpec)) fnExactPutPathUptoCard

/-- THE SECOND FORM's CARD OF 'laws.FnExactGetPath'. -/
def fnExactGetPathUptoCard : Claim7 := { stood := { row := fnExactGetPathUptoRow, standIns := [], harness := (true, "f601e2303ac4fca78973ef4074a15544ec384bf70aab85abaf06874630a46614"), looks := false }, kinds := [], alts := [], laidByText := true, laidKinds := [.data, .pinned], laidTests := true, laidLooks := .later }
def FnExactGetPathUptoCardSaid : Prop := Claim7.holds Tryd.pinned (.plain (OpenSpec.upto fnExactGetPathSpec)) fnExactGetPathUptoCard
end Rows
end Go.Proofs.YtmfogabkpeoagaaDoor

/-
  DERIVED. GIVEN WITH THE SEED: THE CARDS: each row of YtlgonfdodmipeaaDoorRows.lean that lists a variable, with what it lists TIED to the program's text (the seventh form; the later family's looks); each row that meets fmt, with fmt's text TOLD by the authors' own Lean function (tested against real Go, not proved from fmt's source: count such statements apart). THE CARD IS WHAT COUNTS. Prove the row's statement (the work); the ties are given (YtlgonfdodmipeaaDoorTie.lean); close each card by the builder's one call (the guide's Derived/Test/ToyasCard.lean, 'card_holds'). Laid BY PROGRAM, IN A SANDBOX (cutbox-door.mjs). By AI agents, Wed Nov 11 2026. No macro, syntax, notation, axiom, sorry.
-/
import Derived.Test.YtlgonfdodmipeaaDoorRows
import GoSem.ClaimSeven
namespace Go.Proofs.YtlgonfdodmipeaaDoor
namespace Rows

/-- THE TIED CARD OF 'laws.FnExactUnquote'. -/
def fnExactUnquoteCard : Claim7 := { stood := { row := fnExactUnquoteRow, standIns := [], harness := (true, "ab2e2e01ec1e3f00bcf18204dac6631099a52f6bb63846272a5813954b089686"), looks := false }, kinds := [], alts := [], laidByText := true, laidKinds := [.data, .pinned, .pinned], laidTests := true, laidLooks := .later }
def FnExactUnquoteCardSaid : Prop := Claim7.holds Tryd.pinned (.plain (OpenSpec.ofChange fnExactUnquoteSpec)) fnExactUnquoteCard

/-- THE TIED CARD OF 'laws.FnSigns'. -/
def fnSignsCard : Claim7 := { stood := { row := fnSignsRow, standIns := [], harness := (true, "ab2e2e01ec1e3f00bcf18204dac6631099a52f6bb63846272a5813954b089686"), looks := false }, kinds := [], alts := [], laidByText := true, laidKinds := [.data, .pinned], laidTests := true, laidLooks := .later }
def FnSignsCardSaid : Prop := Claim7.holds Tryd.pinned (.plain (OpenSpec.ofChange fnSignsSpec)) fnSignsCard

/-- THE TIED CARD OF 'laws.FnExactPutPath'. -/
def fnExactPutPathCard : Claim7 := { stood := { row := fnExactPutPathRow, standIns := [], harness := (true, "ab2e2e01ec1e3f00bcf18204dac6631099a52f6bb63846272a5813954b089686"), looks := false }, kinds := [], alts := [], laidByText := true, laidKinds := [.data, .pinned], laidTests := true, laidLooks := .later }
def FnExactPutPathCardSaid : Prop := Claim7.holds Tryd.pinned (.plain (OpenSpec.ofChange fnExactPutPathSpec)) fnExactPutPathCard

/-- THE TIED CARD OF 'laws.FnExactGetPath'. -/
def fnExactGetPathCard : Claim7 := { stood := { row := fnExactGetPathRow, standIns := [], harness := (true, "ab2e2e01ec1e3f00bcf18204dac6631099a52f6bb63846272a5813954b089686"), looks := false }, kinds := [], alts := [], laidByText := true, laidKinds := [.data, .pinned], laidTests := true, laidLooks := .later }
def FnExactGetPathCardSaid : Prop := Claim7.holds Tryd.pinned (.plain (OpenSpec.ofChange fnExactGetPathSpec)) fnExactGetPathCard

/-- THE SECOND FORM's CARD OF 'laws.FnExactUnquote'. -/
def fnExactUnquoteUptoCard : Claim7 := { stood := { row := fnExactUnquoteUptoRow, standIns := [], harness := (true, "ab2e2e01ec1e3f00bcf18204dac6631099a52f6bb63846272a5813954b089686"), looks := false }, kinds := [], alts := [], laidByText := true, laidKinds := [.data, .pinned, .pinned], laidTests := true, laidLooks := .later }
def FnExactUnquoteUptoCardSaid : Prop := Claim7.holds Tryd.pinned (.plain (OpenSpec.upto fnExactUnquoteSpec)) fnExactUnquoteUptoCard

/-- THE SECOND FORM's CARD OF 'laws.FnSigns'. -/
def fnSignsUptoCard : Claim7 := { stood := { row := fnSignsUptoRow, standIns := [], harness := (true, "ab2e2e01ec1e3f00bcf18204dac6631099a52f6bb63846272a5813954b089686"), looks := false }, kinds := [], alts := [], laidByText := true, laidKinds := [.data, .pinned], laidTests := true, laidLooks := .later }
def FnSignsUptoCardSaid : Prop := Claim7.holds Tryd.pinned (.plain (OpenSpec.upto fnSignsSpec)) fnSignsUptoCard

/-- THE SECOND FORM's CARD OF 'laws.FnExactPutPath'. -/
def fnExactPutPathUptoCard : Claim7 := { stood := { row := fnExactPutPathUptoRow, standIns := [], harness := (true, "ab2e2e01ec1e3f00bcf18204dac6631099a52f6bb63846272a5813954b089686"), looks := false }, kinds := [], alts := [], laidByText := true, laidKinds := [.data, .pinned], laidTests := true, laidLooks := .later }
def FnExactPutPathUptoCardSaid : Prop := Claim7.holds Tryd.pinned (.plain (OpenSpec.upto fnExactPutPathSpec)) fnExactPutPathUptoCard

/-- THE SECOND FORM's CARD OF 'laws.FnExactGetPath'. -/
def fnExactGetPathUptoCard : Claim7 := { stood := { row := fnExactGetPathUptoRow, standIns := [], harness := (true, "ab2e2e01ec1e3f00bcf18204dac6631099a52f6bb63846272a5813954b089686"), looks := false }, kinds := [], alts := [], laidByText := true, laidKinds := [.data, .pinned], laidTests := true, laidLooks := .later }
def FnExactGetPathUptoCardSaid : Prop := Claim7.holds Tryd.pinned (.plain (OpenSpec.upto fnExactGetPathSpec)) fnExactGetPathUptoCard
end Rows
end Go.Proofs.YtlgonfdodmipeaaDoor

/-
  DERIVED. GIVEN WITH THE SEED: THE CARDS: each row of YtcjamnfboifjeaaDoorRows.lean that lists a variable, with what it lists TIED to the program's text (the seventh form; the later family's looks); each row that meets fmt, with fmt's text TOLD by the authors' own Lean function (tested against real Go, not proved from fmt's source: count such statements apart). THE CARD IS WHAT COUNTS. Prove the row's statement (the work); the ties are given (YtcjamnfboifjeaaDoorTie.lean); close each card by the builder's one call (the guide's Derived/Test/ToyasCard.lean, 'card_holds'). Laid BY PROGRAM, IN A SANDBOX (cutbox-door.mjs). By AI agents, Wed Nov 11 2026. No macro, syntax, notation, axiom, sorry.
-/
import Derived.Test.YtcjamnfboifjeaaDoorRows
import GoSem.ClaimSeven
namespace Go.Proofs.YtcjamnfboifjeaaDoor
namespace Rows

/-- THE TIED CARD OF 'laws.FnExactSorted'. -/
def fnExactSortedCard : Claim7 := { stood := { row := fnExactSortedRow, standIns := [], harness := (true, "c7c38f7580c301298b18d054c06b2a7c480b76c00dd69124129395fa43c9a7fb"), looks := false }, kinds := [], alts := [], laidByText := true, laidKinds := [.data, .pinned], laidTests := true, laidLooks := .later }
def FnExactSortedCardSaid : Prop := Claim7.holds Tryd.pinned (.plain (OpenSpec.ofChange fnExactSortedSpec)) fnExactSortedCard

/-- THE TIED CARD OF 'laws.FnCompare'. -/
def fnCompareCard : Claim7 := { stood := { row := fnCompareRow, standIns := [], harness := (true, "c7c38f7580c301298b18d054c06b2a7c480b76c00dd69124129395fa43c9a7fb"), looks := false }, kinds := [], alts := [], laidByText := true, laidKinds := [.data, .pinned], laidTests := true, laidLooks := .later }
def FnCompareCardSaid : Prop := Claim7.holds Tryd.pinned (.plain (OpenSpec.ofChange fnCompareSpec)) fnCompareCard

/-- THE TIED CARD OF 'laws.FnSorted'. -/
def fnSortedCard : Claim7 := { stood := { row := fnSortedRow, standIns := [], harness := (true, "c7c38f7580c301298b18d054c06b2a7c480b76c00dd69124129395fa43c9a7fb"), looks := false }, kinds := [], alts := [], laidByText := true, laidKinds := [.data, .pinned], laidTests := true, laidLooks := .later }
def FnSortedCardSaid : Prop := Claim7.holds Tryd.pinned (.plain (OpenSpec.ofChange fnSortedSpec)) fnSortedCard

/-- THE SECOND FORM's CARD OF 'laws.FnExactSorted'. -/
def fnExactSortedUptoCard : Claim7 := { stood := { row := fnExactSortedUptoRow, standIns := [], harness := (true, "c7c38f7580c301298b18d054c06b2a7c480b76c00dd69124129395fa43c9a7fb"), looks := false }, kinds := [], alts := [], laidByText := true, laidKinds := [.data, .pinned], laidTests := true, laidLooks := .later }
def FnExactSortedUptoCardSaid : Prop := Claim7.holds Tryd.pinned (.plain (OpenSpec.upto fnExactSortedSpec)) fnExactSortedUptoCard

/-- THE SECOND FORM's CARD OF 'laws.FnCompare'. -/
def fnCompareUptoCard : Claim7 := { stood := { row := fnCompareUptoRow, standIns := [], harness := (true, "c7c38f7580c301298b18d054c06b2a7c480b76c00dd69124129395fa43c9a7fb"), looks := false }, kinds := [], alts := [], laidByText := true, laidKinds := [.data, .pinned], laidTests := true, laidLooks := .later }
def FnCompareUptoCardSaid : Prop := Claim7.holds Tryd.pinned (.plain (OpenSpec.upto fnCompareSpec)) fnCompareUptoCard

/-- THE SECOND FORM's CARD OF 'laws.FnSorted'. -/
def fnSortedUptoCard : Claim7 := { stood := { row := fnSortedUptoRow, standIns := [], harness := (true, "c7c38f7580c301298b18d054c06b2a7c480b76c00dd69124129395fa43c9a7fb"), looks := false }, kinds := [], alts := [], laidByText := true, laidKinds := [.data, .pinned], laidTests := true, laidLooks := .later }
def FnSortedUptoCardSaid : Prop := Claim7.holds Tryd.pinned (.plain (OpenSpec.upto fnSortedSpec)) fnSortedUptoCard
end Rows
end Go.Proofs.YtcjamnfboifjeaaDoor

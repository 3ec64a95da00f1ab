/-
  The library's two tables of UTF-8.
-/
import Derived.Test.YtbflkcldjjpioaaDoorKit
import Derived.Shelf.Unicode.DecodeSlow
namespace Go.Proofs.YtbflkcldjjpioaaDoor
open Go.RowKit

/-- The library's tables. -/
def Tabs (w : World) : Prop := Lib.Utf8Tabs 3 4 w
theorem Tabs.below {w w' : World} (h : Tabs w) (hb : Below w.heap.size w w') : Tabs w' := Utf8Tabs_below h hb
end Go.Proofs.YtbflkcldjjpioaaDoor

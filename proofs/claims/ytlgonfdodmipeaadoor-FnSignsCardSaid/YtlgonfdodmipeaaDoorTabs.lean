/-
  The library's two tables of UTF-8.
-/
import Derived.Test.YtlgonfdodmipeaaDoorKit
import Derived.Shelf.Unicode.DecodeSlow
namespace Go.Proofs.YtlgonfdodmipeaaDoor
open Go.RowKit

/-- The library's tables. -/
def Tabs (w : World) : Prop := Lib.Utf8Tabs 0 1 w
theorem Tabs.below {w w' : World} (h : Tabs w) (hb : Below w.heap.size w w') : Tabs w' := Utf8Tabs_below h hb
end Go.Proofs.YtlgonfdodmipeaaDoor

/-
  TextOk of the program.
-/
import Derived.Test.YtlgonfdodmipeaaDoorSignsS
import Derived.Test.YtlgonfdodmipeaaDoorTabs
import Derived.Test.YtlgonfdodmipeaaDoorShelfV
namespace Go.Proofs.YtlgonfdodmipeaaDoor
open Go.RowKit
set_option linter.unusedVariables false

set_option maxHeartbeats 1000000 in
theorem implTextOk (s : ByteArray) (w : World) (hs : s.size ≤ 1048576) (hT : Tabs w) :
    Calls Tryd.prog 19 #[.string s] w fun e w' => e = .returned (.bool (textOk s)) ∧ Below w.heap.size w w' := by
  have HV := Lib.hid (valid_textOk s)
  go_enter Tryd.func19, Tryd.ntmps19
  go_wp2_with fail
  refine (Tryd.utf8_ValidString s w (by omega) hT).mono ?_
  rintro e w1 ⟨rfl, hb1⟩
  rw [HV.out]
  go_wp2_with fail
  go_ret
  exact ⟨rfl, hb1⟩
end Go.Proofs.YtlgonfdodmipeaaDoor

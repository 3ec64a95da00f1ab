/-
  The program's isNode, whole; isKey.
-/
import Derived.Test.YtbflkcldjjpioaaDoorRightN4
namespace Go.Proofs.YtbflkcldjjpioaaDoor
open Go.RowKit
set_option linter.unusedVariables false
set_option maxRecDepth 100000

set_option maxHeartbeats 2000000 in
theorem implNode_else (v : V) (A : Option Addr) (cap : Nat) (w : World) (hk : v.k < 0 ∨ 9 < v.k) :
    Calls Tryd.prog 115 #[v.agg A cap] w fun e w' => e = .returned (.bool (decide (nodeOk v))) ∧ Below w.heap.size w w' := by
  have HO := Lib.hid (node_else hk)
  have q0 : (v.k == 0) = false := by rw [beq_eq_false_iff_ne]; omega
  have q1 : (v.k == 1) = false := by rw [beq_eq_false_iff_ne]; omega
  have q2 : (v.k == 2) = false := by rw [beq_eq_false_iff_ne]; omega
  have q3 : (v.k == 3) = false := by rw [beq_eq_false_iff_ne]; omega
  have q4 : (v.k == 4) = false := by rw [beq_eq_false_iff_ne]; omega
  have q5 : (v.k == 5) = false := by rw [beq_eq_false_iff_ne]; omega
  have q6 : (v.k == 6) = false := by rw [beq_eq_false_iff_ne]; omega
  have q7 : (v.k == 7) = false := by rw [beq_eq_false_iff_ne]; omega
  have q8 : (v.k == 8) = false := by rw [beq_eq_false_iff_ne]; omega
  have q9 : (v.k == 9) = false := by rw [beq_eq_false_iff_ne]; omega
  clear hk
  unfold V.agg
  go_enter Tryd.func115, Tryd.ntmps115
  go_wp2_with fail
  go_ret
  exact ⟨ret_bool (decide_eq_false HO.out).symm, bl_2a⟩
theorem implNode (v : V) (A : Option Addr) (cap : Nat) (w : World) (hs : v.s.size ≤ 1048576) (hT : Tabs w) :
    Calls Tryd.prog 115 #[v.agg A cap] w fun e w' => e = .returned (.bool (decide (nodeOk v))) ∧ Below w.heap.size w w' := by
  rcases (show v.k = 0 ∨ v.k = 1 ∨ v.k = 2 ∨ v.k = 3 ∨ v.k = 4 ∨ v.k = 5 ∨ v.k = 6 ∨ v.k = 7 ∨ v.k = 8 ∨ v.k = 9 ∨ (v.k < 0 ∨ 9 < v.k) by omega) with h | h | h | h | h | h | h | h | h | h | h
  · exact implNode_0 v A cap w h
  · exact implNode_1 v A cap w h
  · exact implNode_2 v A cap w h
  · exact implNode_3 v A cap w h
  · exact implNode_4 v A cap w h
  · exact implNode_5 v A cap w h hs hT
  · exact implNode_6 v A cap w h
  · exact implNode_7 v A cap w h
  · exact implNode_8 v A cap w h
  · exact implNode_9 v A cap w h
  · exact implNode_else v A cap w h
set_option maxHeartbeats 1000000 in
theorem implIsKey (v : V) (A : Option Addr) (cap : Nat) (w : World) :
    Calls Tryd.prog 137 #[v.agg A cap] w fun e w' => e = .returned (.bool (isKeyB v)) ∧ Below w.heap.size w w' := by
  unfold V.agg
  go_enter Tryd.func137, Tryd.ntmps137
  go_wp2_with fail
  all_goals go_ret
  all_goals exact ⟨ret_bool (by unfold isKeyB; first | (simp [*]; done) | (rw [Bool.eq_iff_iff]; simp [*])), (Below.refl _ _).alloc (Nat.le_refl _) _⟩
end Go.Proofs.YtbflkcldjjpioaaDoor

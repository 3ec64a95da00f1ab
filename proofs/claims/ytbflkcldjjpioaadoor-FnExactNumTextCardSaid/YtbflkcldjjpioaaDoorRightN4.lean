/-
  The program's test of a decimal number but for its kids.
-/
import Derived.Test.YtbflkcldjjpioaaDoorRightN
import Derived.RegionTactic
import Derived.BigRegion
import Derived.ChangeAlike
namespace Go.Proofs.YtbflkcldjjpioaaDoor
open Go.RowKit
set_option linter.unusedVariables false
set_option maxRecDepth 100000

set_option maxHeartbeats 4000000 in
theorem implNode_4 (v : V) (A : Option Addr) (cap : Nat) (w : World) (hk : v.k = 4) :
    Calls Tryd.prog 115 #[v.agg A cap] w fun e w' => e = .returned (.bool (decide (nodeOk v))) ∧ Below w.heap.size w w' := by
  have HO := Lib.hid (node_4 hk)
  unfold V.agg
  go_enter Tryd.func115, Tryd.ntmps115
  go_wp2_with fail
  have hI := fun w0 => implIsDec v A cap w0
  unfold V.agg at hI
  rw [hk] at hI
  refine (hI _).mono ?_
  rintro e w1 ⟨rfl, hb1⟩
  obtain ⟨p0, p1, p2, p3, p4⟩ := (blk_first hb1).five
  obtain ⟨q0, q1, q2, q3, q4⟩ := (blk_second hb1).five
  have f1 := (blk_second hb1).frozen 1
  have f2 := (blk_second hb1).frozen 2
  have f3 := (blk_second hb1).frozen 3
  have HBB := Lib.hid (bl_2b hb1)
  clear hb1
  by_cases hd : decOk v.n v.e
  · rw [show decide (decOk v.n v.e) = true from decide_eq_true hd]
    have HD := Lib.hid hd
    clear hd
    go_wp2_with fail
    go_region
    all_goals go_wp2_with fail
    all_goals go_ret
    all_goals refine ⟨ret_bool (by simp only [HO.out, HD.out, true_and]; cases v.s.toList <;> simp), ?_⟩
    all_goals first
      | exact ((HBB.out.setCell (p := ⟨w.heap.size + 1, 1, none⟩) (by simp) _).setCell (p := ⟨w.heap.size + 1, 2, none⟩) (by simp) _).drew
      | exact ((HBB.out.drew.setCell (p := ⟨w.heap.size + 1, 1, none⟩) (by simp) _).setCell (p := ⟨w.heap.size + 1, 2, none⟩) (by simp) _)
      | exact ((HBB.out.setCell (p := ⟨w.heap.size + 1, 2, none⟩) (by simp) _).setCell (p := ⟨w.heap.size + 1, 1, none⟩) (by simp) _).drew
  · rw [show decide (decOk v.n v.e) = false from decide_eq_false hd]
    have HN : Hid (¬ nodeOk v) := Lib.hid (fun h => hd (HO.out.1 h).1)
    clear hd
    go_wp2_with fail
    go_ret
    exact ⟨ret_bool (decide_eq_false HN.out).symm, HBB.out⟩
end Go.Proofs.YtbflkcldjjpioaaDoor

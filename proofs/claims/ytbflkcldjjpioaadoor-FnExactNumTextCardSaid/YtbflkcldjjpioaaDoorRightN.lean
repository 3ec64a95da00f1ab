/-
  The program's test of a value but for its kids.
-/
import Derived.Test.YtbflkcldjjpioaaDoorRightJ
import Derived.Test.YtbflkcldjjpioaaDoorSigns
namespace Go.Proofs.YtbflkcldjjpioaaDoor
open Go.RowKit
set_option linter.unusedVariables false
set_option maxRecDepth 100000

theorem sz_empty (s : ByteArray) : s.size = 0 ↔ s.toList = [] := by
  rw [ByteArray.toList_eq]
  constructor
  · intro h
    have : s.data.toList.length = 0 := by simpa using h
    exact List.length_eq_zero_iff.1 this
  · intro h
    have : s.data.toList.length = 0 := by rw [h]; rfl
    simpa using this
theorem szz (n : Nat) : n ≤ 2000 ↔ (n : Int) ≤ 2000 := by omega
theorem node_a {v : V} (h : v.k = 0 ∨ v.k = 1 ∨ v.k = 2 ∨ v.k = 7 ∨ v.k = 8) : nodeOk v ↔ v.n = 0 ∧ v.e = 0 ∧ v.s.toList = [] := by
  unfold nodeOk
  rw [if_pos h, sz_empty]
theorem node_3 {v : V} (h : v.k = 3) : nodeOk v ↔ v.e = 0 ∧ v.s.toList = [] := by
  unfold nodeOk
  rw [if_neg (by omega), if_pos h, sz_empty]
theorem node_4 {v : V} (h : v.k = 4) : nodeOk v ↔ decOk v.n v.e ∧ v.s.toList = [] := by
  unfold nodeOk
  rw [if_neg (by omega), if_neg (by omega), if_pos h, sz_empty]
theorem node_5 {v : V} (h : v.k = 5) : nodeOk v ↔ v.n = 0 ∧ v.e = 0 ∧ textOk v.s = true ∧ (v.s.size : Int) ≤ 2000 := by
  unfold nodeOk
  rw [if_neg (by omega), if_neg (by omega), if_neg (by omega), if_pos h, szz]
theorem node_6 {v : V} (h : v.k = 6) : nodeOk v ↔ v.n = 0 ∧ v.e = 0 ∧ (v.s.size : Int) ≤ 2000 := by
  unfold nodeOk
  rw [if_neg (by omega), if_neg (by omega), if_neg (by omega), if_neg (by omega), if_pos h, szz]
theorem node_9 {v : V} (h : v.k = 9) : nodeOk v ↔ 0 ≤ v.n ∧ v.n ≤ 1000000 ∧ v.e = 0 ∧ v.s.toList = [] := by
  unfold nodeOk
  rw [if_neg (by omega), if_neg (by omega), if_neg (by omega), if_neg (by omega), if_neg (by omega), if_pos h, sz_empty]
theorem node_else {v : V} (h : v.k < 0 ∨ 9 < v.k) : ¬ nodeOk v := by
  unfold nodeOk
  rw [if_neg (by omega), if_neg (by omega), if_neg (by omega), if_neg (by omega), if_neg (by omega), if_neg (by omega)]
  exact id
theorem bl_2a {w : World} {o o' : Obj} : Below w.heap.size w ((w.alloc o).alloc o') := ((Below.refl _ w).alloc (Nat.le_refl _) o).alloc (by simp) o'
theorem blk_first {w w1 : World} {o' : Obj} {t : TypeId} {cs : Array Value} (h : Below ((w.alloc (.cells cs t)).alloc o').heap.size ((w.alloc (.cells cs t)).alloc o') w1) : Blk w1 w.heap.size t cs :=
  ((Blk.new w t cs).alloc o').below h (by simp; omega)
theorem blk_second {w w1 : World} {o : Obj} {t : TypeId} {cs : Array Value} (h : Below ((w.alloc o).alloc (.cells cs t)).heap.size ((w.alloc o).alloc (.cells cs t)) w1) : Blk w1 (w.heap.size + 1) t cs := by
  have := (Blk.new (w.alloc o) t cs).below h (by simp)
  simpa using this
theorem bl_2b {w w1 : World} {o o' : Obj} (h : Below ((w.alloc o).alloc o').heap.size ((w.alloc o).alloc o') w1) : Below w.heap.size w w1 := bl_2a.trans (h.mono (by simp; omega))

set_option maxHeartbeats 4000000 in
theorem implNode_0 (v : V) (A : Option Addr) (cap : Nat) (w : World) (hk : v.k = 0) :
    Calls Tryd.prog 115 #[v.agg A cap] w fun e w' => e = .returned (.bool (decide (nodeOk v))) ∧ Below w.heap.size w w' := by
  have HO := Lib.hid (node_a (.inl hk))
  unfold V.agg
  go_enter Tryd.func115, Tryd.ntmps115
  go_wp2_with fail
  all_goals go_ret
  all_goals refine ⟨ret_bool ?_, bl_2a⟩
  all_goals first
    | (simp [HO.out, *]; done)
    | (simp [HO.out, *]; intros; omega)
    | (simp [HO.out, *]; cases v.s.toList <;> rfl)
    | (simp_all [HO.out]; done)
    | (simp_all [HO.out]; intros; omega)
    | (simp_all [HO.out]; cases v.s.toList <;> rfl)

set_option maxHeartbeats 4000000 in
theorem implNode_1 (v : V) (A : Option Addr) (cap : Nat) (w : World) (hk : v.k = 1) :
    Calls Tryd.prog 115 #[v.agg A cap] w fun e w' => e = .returned (.bool (decide (nodeOk v))) ∧ Below w.heap.size w w' := by
  have HO := Lib.hid (node_a (.inr (.inl hk)))
  unfold V.agg
  go_enter Tryd.func115, Tryd.ntmps115
  go_wp2_with fail
  all_goals go_ret
  all_goals refine ⟨ret_bool ?_, bl_2a⟩
  all_goals first
    | (simp [HO.out, *]; done)
    | (simp [HO.out, *]; intros; omega)
    | (simp [HO.out, *]; cases v.s.toList <;> rfl)
    | (simp_all [HO.out]; done)
    | (simp_all [HO.out]; intros; omega)
    | (simp_all [HO.out]; cases v.s.toList <;> rfl)

set_option maxHeartbeats 4000000 in
theorem implNode_2 (v : V) (A : Option Addr) (cap : Nat) (w : World) (hk : v.k = 2) :
    Calls Tryd.prog 115 #[v.agg A cap] w fun e w' => e = .returned (.bool (decide (nodeOk v))) ∧ Below w.heap.size w w' := by
  have HO := Lib.hid (node_a (.inr (.inr (.inl hk))))
  unfold V.agg
  go_enter Tryd.func115, Tryd.ntmps115
  go_wp2_with fail
  all_goals go_ret
  all_goals refine ⟨ret_bool ?_, bl_2a⟩
  all_goals first
    | (simp [HO.out, *]; done)
    | (simp [HO.out, *]; intros; omega)
    | (simp [HO.out, *]; cases v.s.toList <;> rfl)
    | (simp_all [HO.out]; done)
    | (simp_all [HO.out]; intros; omega)
    | (simp_all [HO.out]; cases v.s.toList <;> rfl)

set_option maxHeartbeats 4000000 in
theorem implNode_7 (v : V) (A : Option Addr) (cap : Nat) (w : World) (hk : v.k = 7) :
    Calls Tryd.prog 115 #[v.agg A cap] w fun e w' => e = .returned (.bool (decide (nodeOk v))) ∧ Below w.heap.size w w' := by
  have HO := Lib.hid (node_a (.inr (.inr (.inr (.inl hk)))))
  unfold V.agg
  go_enter Tryd.func115, Tryd.ntmps115
  go_wp2_with fail
  all_goals go_ret
  all_goals refine ⟨ret_bool ?_, bl_2a⟩
  all_goals first
    | (simp [HO.out, *]; done)
    | (simp [HO.out, *]; intros; omega)
    | (simp [HO.out, *]; cases v.s.toList <;> rfl)
    | (simp_all [HO.out]; done)
    | (simp_all [HO.out]; intros; omega)
    | (simp_all [HO.out]; cases v.s.toList <;> rfl)

set_option maxHeartbeats 4000000 in
theorem implNode_8 (v : V) (A : Option Addr) (cap : Nat) (w : World) (hk : v.k = 8) :
    Calls Tryd.prog 115 #[v.agg A cap] w fun e w' => e = .returned (.bool (decide (nodeOk v))) ∧ Below w.heap.size w w' := by
  have HO := Lib.hid (node_a (.inr (.inr (.inr (.inr hk)))))
  unfold V.agg
  go_enter Tryd.func115, Tryd.ntmps115
  go_wp2_with fail
  all_goals go_ret
  all_goals refine ⟨ret_bool ?_, bl_2a⟩
  all_goals first
    | (simp [HO.out, *]; done)
    | (simp [HO.out, *]; intros; omega)
    | (simp [HO.out, *]; cases v.s.toList <;> rfl)
    | (simp_all [HO.out]; done)
    | (simp_all [HO.out]; intros; omega)
    | (simp_all [HO.out]; cases v.s.toList <;> rfl)

set_option maxHeartbeats 4000000 in
theorem implNode_3 (v : V) (A : Option Addr) (cap : Nat) (w : World) (hk : v.k = 3) :
    Calls Tryd.prog 115 #[v.agg A cap] w fun e w' => e = .returned (.bool (decide (nodeOk v))) ∧ Below w.heap.size w w' := by
  have HO := Lib.hid (node_3 hk)
  unfold V.agg
  go_enter Tryd.func115, Tryd.ntmps115
  go_wp2_with fail
  all_goals go_ret
  all_goals refine ⟨ret_bool ?_, bl_2a⟩
  all_goals first
    | (simp [HO.out, *]; done)
    | (simp [HO.out, *]; intros; omega)
    | (simp [HO.out, *]; cases v.s.toList <;> rfl)
    | (simp_all [HO.out]; done)
    | (simp_all [HO.out]; intros; omega)
    | (simp_all [HO.out]; cases v.s.toList <;> rfl)

set_option maxHeartbeats 4000000 in
theorem implNode_6 (v : V) (A : Option Addr) (cap : Nat) (w : World) (hk : v.k = 6) :
    Calls Tryd.prog 115 #[v.agg A cap] w fun e w' => e = .returned (.bool (decide (nodeOk v))) ∧ Below w.heap.size w w' := by
  have HO := Lib.hid (node_6 hk)
  unfold V.agg
  go_enter Tryd.func115, Tryd.ntmps115
  go_wp2_with fail
  all_goals go_ret
  all_goals refine ⟨ret_bool ?_, bl_2a⟩
  all_goals first
    | (simp [HO.out, *]; done)
    | (simp [HO.out, *]; intros; omega)
    | (simp [HO.out, *]; cases v.s.toList <;> rfl)
    | (simp_all [HO.out]; done)
    | (simp_all [HO.out]; intros; omega)
    | (simp_all [HO.out]; cases v.s.toList <;> rfl)

set_option maxHeartbeats 4000000 in
theorem implNode_9 (v : V) (A : Option Addr) (cap : Nat) (w : World) (hk : v.k = 9) :
    Calls Tryd.prog 115 #[v.agg A cap] w fun e w' => e = .returned (.bool (decide (nodeOk v))) ∧ Below w.heap.size w w' := by
  have HO := Lib.hid (node_9 hk)
  unfold V.agg
  go_enter Tryd.func115, Tryd.ntmps115
  go_wp2_with (go_at_call 46; go_in)
  all_goals go_ret
  all_goals refine ⟨ret_bool ?_, bl_2a⟩
  all_goals first
    | (simp [HO.out, *]; done)
    | (simp [HO.out, *]; intros; omega)
    | (simp [HO.out, *]; cases v.s.toList <;> rfl)
    | (simp_all [HO.out]; done)
    | (simp_all [HO.out]; intros; omega)
    | (simp_all [HO.out]; cases v.s.toList <;> rfl)

set_option maxHeartbeats 4000000 in
theorem implNode_5 (v : V) (A : Option Addr) (cap : Nat) (w : World) (hk : v.k = 5) (hs : v.s.size ≤ 1048576) (hT : Tabs w) :
    Calls Tryd.prog 115 #[v.agg A cap] w fun e w' => e = .returned (.bool (decide (nodeOk v))) ∧ Below w.heap.size w w' := by
  have HO := Lib.hid (node_5 hk)
  unfold V.agg
  go_enter Tryd.func115, Tryd.ntmps115
  go_wp2_with (go_at_call 136; refine (implTextOk v.s _ hs (hT.below bl_2a)).mono ?_; rintro e w1 ⟨rfl, hb1⟩; obtain ⟨p0, p1, p2, p3, p4⟩ := (blk_first hb1).five; obtain ⟨q0, q1, q2, q3, q4⟩ := (blk_second hb1).five; have f1 := (blk_second hb1).frozen 1; have f2 := (blk_second hb1).frozen 2; have f3 := (blk_second hb1).frozen 3)
  all_goals go_ret
  all_goals refine ⟨ret_bool ?_, by first | exact bl_2a | exact bl_2b hb1 | exact (bl_2b hb1).setCell (p := ⟨w.heap.size + 1, 3, none⟩) (by simp) _⟩
  all_goals first
    | (simp [HO.out, *]; done)
    | (simp [HO.out, *]; intros; omega)
    | (simp_all [HO.out]; done)
    | (simp_all [HO.out]; intros; omega)
    | (simp_all [HO.out]; cases h : textOk v.s <;> simp_all <;> omega)
end Go.Proofs.YtbflkcldjjpioaaDoor

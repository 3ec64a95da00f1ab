/-
  The texts on which the last one leans, part 5: RightO, RightR, NormS, Draw5, NumS, RightJ, Tabs, Signs, RightN, RightN4, RightK, Ord, ImplSame, RightP, RightV, KeepT.
-/
import Derived.Test.YtbfddabljkoapaaGreatDoorPLFnNumberd
import Derived.BigQuiet
import Derived.Shelf.Unicode.DecodeSlow
import Derived.Test.YtbfddabljkoapaaGreatDoorShelfV
import Derived.RegionTactic
import Derived.BigRegion
import Derived.ChangeAlike
import Derived.Shelf.Abstract
import Derived.StillTailTactics
import Derived.OneCell
/-
  The reference's test of a value but for its kids' rightness.
-/
namespace Go.Proofs.YtbfddabljkoapaaGreatDoor
open Go.RowKit
set_option linter.unusedVariables false
set_option maxRecDepth 100000

theorem bl_q {w w1 : World} {o : Obj} {n : Nat} (h : Below ((w.alloc o).drewN n).heap.size ((w.alloc o).drewN n) w1) : Below w.heap.size w w1 :=
  (below_drewN ((Below.refl w.heap.size w).alloc (Nat.le_refl _) o) n).trans (h.mono (by show w.heap.size ≤ (w.alloc o).heap.size; simp))
theorem blk_q {w : World} {g n : Nat} {t : TypeId} {cs : Array Value} (h : Blk w g t cs) : Blk (w.drewN n) g t cs := h
theorem at_q {w : World} {o : Obj} {n : Nat} {l : List V} {A : Option Addr} (h : Vs.at_ w 0 w.heap.size l A) : Vs.at_ ((w.alloc o).drewN n) 0 ((w.alloc o).drewN n).heap.size l A :=
  Vs.at_more (Nat.le_refl _) (by show w.heap.size ≤ (w.alloc o).heap.size; simp) _ _ (Vs.at_keep (w := w.alloc o) (w' := (w.alloc o).drewN n) (fun _ _ _ => rfl) _ _ (Vs.at_alloc h (Nat.le_refl _) o))
theorem s_empty (s : ByteArray) : s.size = 0 ↔ s.toList = [] := by
  rw [ByteArray.toList_eq]
  constructor
  · intro h
    have : s.data.toList.length = 0 := by simpa using h
    exact List.length_eq_zero_iff.1 this
  · intro h
    have : s.data.toList.length = 0 := by rw [h]; rfl
    simpa using this
theorem len0 (n : Nat) : n = 0 ↔ ((n : Int) == 0) = true := by rw [beq_iff_eq]; omega
theorem len1 (n : Nat) : n = 1 ↔ ((n : Int) == 1) = true := by rw [beq_iff_eq]; omega
theorem sz2000 (n : Nat) : n ≤ 2000 ↔ (n : Int) ≤ 2000 := by omega
theorem own_k012 {v : V} (h : v.k = 0 ∨ v.k = 1 ∨ v.k = 2) : ownOk v ↔ v.n = 0 ∧ v.e = 0 ∧ v.s.toList = [] ∧ ((v.kids.length : Int) == 0) = true := by
  unfold ownOk nodeOk kidsOk
  rw [if_pos (by omega), if_neg (by omega), if_neg (by omega), if_neg (by omega), s_empty, len0]
  simp only [and_assoc]
theorem own_k3 {v : V} (h : v.k = 3) : ownOk v ↔ v.e = 0 ∧ v.s.toList = [] ∧ ((v.kids.length : Int) == 0) = true := by
  unfold ownOk nodeOk kidsOk
  rw [if_neg (by omega), if_pos (by omega), if_neg (by omega), if_neg (by omega), if_neg (by omega), s_empty, len0]
  simp only [and_assoc]
theorem own_k4 {v : V} (h : v.k = 4) : ownOk v ↔ decOk v.n v.e ∧ v.s.toList = [] ∧ ((v.kids.length : Int) == 0) = true := by
  unfold ownOk nodeOk kidsOk
  rw [if_neg (by omega), if_neg (by omega), if_pos (by omega), if_neg (by omega), if_neg (by omega), if_neg (by omega), s_empty, len0]
  simp only [and_assoc]
theorem own_k5 {v : V} (h : v.k = 5) : ownOk v ↔ v.n = 0 ∧ v.e = 0 ∧ textOk v.s = true ∧ (v.s.size : Int) ≤ 2000 ∧ ((v.kids.length : Int) == 0) = true := by
  unfold ownOk nodeOk kidsOk
  rw [if_neg (by omega), if_neg (by omega), if_neg (by omega), if_pos (by omega), if_neg (by omega), if_neg (by omega), if_neg (by omega), sz2000, len0]
  simp only [and_assoc]
theorem own_k6 {v : V} (h : v.k = 6) : ownOk v ↔ v.n = 0 ∧ v.e = 0 ∧ (v.s.size : Int) ≤ 2000 ∧ ((v.kids.length : Int) == 0) = true := by
  unfold ownOk nodeOk kidsOk
  rw [if_neg (by omega), if_neg (by omega), if_neg (by omega), if_neg (by omega), if_pos (by omega), if_neg (by omega), if_neg (by omega), if_neg (by omega), sz2000, len0]
  simp only [and_assoc]
theorem own_k7 {v : V} (h : v.k = 7) : ownOk v ↔ v.n = 0 ∧ v.e = 0 ∧ v.s.toList = [] := by
  unfold ownOk nodeOk kidsOk
  rw [if_pos (by omega), if_pos (by omega), s_empty]
  simp only [and_true]
theorem own_k8 {v : V} (h : v.k = 8) : ownOk v ↔ v.n = 0 ∧ v.e = 0 ∧ v.s.toList = [] ∧ pairsOk v.kids := by
  unfold ownOk nodeOk kidsOk
  rw [if_pos (by omega), if_neg (by omega), if_neg (by omega), if_pos (by omega), s_empty]
  simp only [and_assoc]
theorem own_k9 {v : V} (h : v.k = 9) : ownOk v ↔ (0 ≤ v.n ∧ v.n ≤ 1000000) ∧ v.e = 0 ∧ v.s.toList = [] ∧ ((v.kids.length : Int) == 1) = true := by
  unfold ownOk nodeOk kidsOk
  rw [if_neg (by omega), if_neg (by omega), if_neg (by omega), if_neg (by omega), if_neg (by omega), if_pos (by omega), if_neg (by omega), if_pos (by omega), s_empty, len1]
  simp only [and_assoc]
theorem dec_bool {n e : Int} (h1 : -20 ≤ e) (h2 : e ≤ 20) (h3 : e ≠ 0) (h4 : -999999999999999999 ≤ n) (h5 : n ≤ 999999999999999999) (h6 : ¬ Int.tmod n 10 = 0) : (!(decide (0 < e) && (tens n e.toNat).isSome)) = true ↔ decOk n e := by
  unfold decOk
  cases ht : tens n e.toNat with
  | none => simp [*]
  | some x => simp [*]
theorem own_else {v : V} (h : v.k < 0 ∨ 9 < v.k) : ¬ ownOk v := by
  unfold ownOk nodeOk
  rw [if_neg (by omega), if_neg (by omega), if_neg (by omega), if_neg (by omega), if_neg (by omega), if_neg (by omega)]
  exact fun h => h.1

set_option maxHeartbeats 4000000 in
theorem specOwn_0 (v : V) (A : Option Addr) (cap : Nat) (w : World) (hk : v.k = 0) (hl : v.kids.length ≤ 1048576) :
    Calls Tryz.prog 133 #[v.agg A cap] w fun e w' => e = .returned (.bool (decide (ownOk v))) ∧ Below w.heap.size w w' := by
  have HO := Lib.hid (own_k012 (.inl hk))
  unfold V.agg
  go_enter Tryz.func133, Tryz.ntmps133
  go_wp2_with fail
  go_quiet (fail)
  go_wp2_with fail
  all_goals go_ret
  all_goals refine ⟨ret_bool ?_, below_drewN ((Below.refl _ _).alloc (Nat.le_refl _) _) _⟩
  all_goals try generalize ((v.kids.length : Int) == 0) = bl at *
  all_goals first
    | (simp [HO.out, *]; done)
    | (simp [HO.out, *]; intro; omega)
    | (simp [HO.out, *]; cases v.s.toList <;> rfl)

set_option maxHeartbeats 4000000 in
theorem specOwn_1 (v : V) (A : Option Addr) (cap : Nat) (w : World) (hk : v.k = 1) (hl : v.kids.length ≤ 1048576) :
    Calls Tryz.prog 133 #[v.agg A cap] w fun e w' => e = .returned (.bool (decide (ownOk v))) ∧ Below w.heap.size w w' := by
  have HO := Lib.hid (own_k012 (.inr (.inl hk)))
  unfold V.agg
  go_enter Tryz.func133, Tryz.ntmps133
  go_wp2_with fail
  go_quiet (fail)
  go_wp2_with fail
  all_goals go_ret
  all_goals refine ⟨ret_bool ?_, below_drewN ((Below.refl _ _).alloc (Nat.le_refl _) _) _⟩
  all_goals try generalize ((v.kids.length : Int) == 0) = bl at *
  all_goals first
    | (simp [HO.out, *]; done)
    | (simp [HO.out, *]; intro; omega)
    | (simp [HO.out, *]; cases v.s.toList <;> rfl)

set_option maxHeartbeats 4000000 in
theorem specOwn_2 (v : V) (A : Option Addr) (cap : Nat) (w : World) (hk : v.k = 2) (hl : v.kids.length ≤ 1048576) :
    Calls Tryz.prog 133 #[v.agg A cap] w fun e w' => e = .returned (.bool (decide (ownOk v))) ∧ Below w.heap.size w w' := by
  have HO := Lib.hid (own_k012 (.inr (.inr hk)))
  unfold V.agg
  go_enter Tryz.func133, Tryz.ntmps133
  go_wp2_with fail
  go_quiet (fail)
  go_wp2_with fail
  all_goals go_ret
  all_goals refine ⟨ret_bool ?_, below_drewN ((Below.refl _ _).alloc (Nat.le_refl _) _) _⟩
  all_goals try generalize ((v.kids.length : Int) == 0) = bl at *
  all_goals first
    | (simp [HO.out, *]; done)
    | (simp [HO.out, *]; intro; omega)
    | (simp [HO.out, *]; cases v.s.toList <;> rfl)

set_option maxHeartbeats 4000000 in
theorem specOwn_3 (v : V) (A : Option Addr) (cap : Nat) (w : World) (hk : v.k = 3) (hl : v.kids.length ≤ 1048576) :
    Calls Tryz.prog 133 #[v.agg A cap] w fun e w' => e = .returned (.bool (decide (ownOk v))) ∧ Below w.heap.size w w' := by
  have HO := Lib.hid (own_k3 hk)
  unfold V.agg
  go_enter Tryz.func133, Tryz.ntmps133
  go_wp2_with fail
  go_quiet (fail)
  go_wp2_with fail
  all_goals go_ret
  all_goals refine ⟨ret_bool ?_, below_drewN ((Below.refl _ _).alloc (Nat.le_refl _) _) _⟩
  all_goals try generalize ((v.kids.length : Int) == 0) = bl at *
  all_goals first
    | (simp [HO.out, *]; done)
    | (simp [HO.out, *]; intro; omega)
    | (simp [HO.out, *]; cases v.s.toList <;> rfl)

set_option maxHeartbeats 4000000 in
theorem specOwn_6 (v : V) (A : Option Addr) (cap : Nat) (w : World) (hk : v.k = 6) (hl : v.kids.length ≤ 1048576) :
    Calls Tryz.prog 133 #[v.agg A cap] w fun e w' => e = .returned (.bool (decide (ownOk v))) ∧ Below w.heap.size w w' := by
  have HO := Lib.hid (own_k6 hk)
  unfold V.agg
  go_enter Tryz.func133, Tryz.ntmps133
  go_wp2_with fail
  go_quiet (fail)
  go_wp2_with fail
  all_goals go_ret
  all_goals refine ⟨ret_bool ?_, below_drewN ((Below.refl _ _).alloc (Nat.le_refl _) _) _⟩
  all_goals try generalize ((v.kids.length : Int) == 0) = bl at *
  all_goals first
    | (simp [HO.out, *]; done)
    | (simp [HO.out, *]; intro; omega)
    | (simp [HO.out, *]; cases v.s.toList <;> rfl)

set_option maxHeartbeats 4000000 in
theorem specOwn_7 (v : V) (A : Option Addr) (cap : Nat) (w : World) (hk : v.k = 7) (hl : v.kids.length ≤ 1048576) :
    Calls Tryz.prog 133 #[v.agg A cap] w fun e w' => e = .returned (.bool (decide (ownOk v))) ∧ Below w.heap.size w w' := by
  have HO := Lib.hid (own_k7 hk)
  unfold V.agg
  go_enter Tryz.func133, Tryz.ntmps133
  go_wp2_with fail
  go_quiet (fail)
  go_wp2_with fail
  all_goals go_ret
  all_goals refine ⟨ret_bool ?_, below_drewN ((Below.refl _ _).alloc (Nat.le_refl _) _) _⟩
  all_goals try generalize ((v.kids.length : Int) == 0) = bl at *
  all_goals first
    | (simp [HO.out, *]; done)
    | (simp [HO.out, *]; intro; omega)
    | (simp [HO.out, *]; cases v.s.toList <;> rfl)

set_option maxHeartbeats 4000000 in
theorem specOwn_5 (v : V) (A : Option Addr) (cap : Nat) (w : World) (hk : v.k = 5) (hl : v.kids.length ≤ 1048576) (hs : v.s.size ≤ 1048576) :
    Calls Tryz.prog 133 #[v.agg A cap] w fun e w' => e = .returned (.bool (decide (ownOk v))) ∧ Below w.heap.size w w' := by
  have HO := Lib.hid (own_k5 hk)
  unfold V.agg
  go_enter Tryz.func133, Tryz.ntmps133
  go_wp2_with fail
  go_quiet (fail)
  go_wp2_with (go_at_call 30; refine (specTextOk v.s _ hs).mono ?_; rintro e w1 ⟨rfl, hb1⟩; obtain ⟨p0, p1, p2, p3, p4⟩ := ((blk_q (Blk.new _ _ _)).below hb1 (by simp)).five; have hq := hb1.size)
  all_goals go_ret
  all_goals refine ⟨ret_bool ?_, by first | exact below_drewN ((Below.refl _ _).alloc (Nat.le_refl _) _) _ | exact bl_q hb1⟩
  all_goals try generalize ((v.kids.length : Int) == 0) = bl at *
  all_goals try generalize ((v.kids.length : Int) == 1) = bl at *
  all_goals first
    | (simp [HO.out, *]; done)
    | (simp [HO.out, *]; intro; omega)
    | (simp [HO.out, *]; cases v.s.toList <;> rfl)

set_option maxHeartbeats 4000000 in
theorem specOwn_8 (v : V) (A : Option Addr) (cap : Nat) (w : World) (hk : v.k = 8) (hl : v.kids.length ≤ 1048576) (hat : Vs.at_ w 0 w.heap.size v.kids A) :
    Calls Tryz.prog 133 #[v.agg A cap] w fun e w' => e = .returned (.bool (decide (ownOk v))) ∧ Below w.heap.size w w' := by
  have HO := Lib.hid (own_k8 hk)
  have HA := Lib.hid hat
  clear hat
  unfold V.agg
  go_enter Tryz.func133, Tryz.ntmps133
  go_wp2_with fail
  go_quiet (fail)
  go_wp2_with (go_at_call 169; refine (specPairs v.kids A cap _ hl (at_q HA.out)).mono ?_; rintro e w1 ⟨rfl, hb1⟩)
  all_goals go_ret
  all_goals refine ⟨ret_bool ?_, by first | exact below_drewN ((Below.refl _ _).alloc (Nat.le_refl _) _) _ | exact bl_q hb1⟩
  all_goals try generalize ((v.kids.length : Int) == 0) = bl at *
  all_goals try generalize ((v.kids.length : Int) == 1) = bl at *
  all_goals first
    | (simp [HO.out, *]; done)
    | (simp [HO.out, *]; intro; omega)
    | (simp [HO.out, *]; cases v.s.toList <;> rfl)

set_option maxHeartbeats 4000000 in
theorem specOwn_9 (v : V) (A : Option Addr) (cap : Nat) (w : World) (hk : v.k = 9) (hl : v.kids.length ≤ 1048576) :
    Calls Tryz.prog 133 #[v.agg A cap] w fun e w' => e = .returned (.bool (decide (ownOk v))) ∧ Below w.heap.size w w' := by
  have HO := Lib.hid (own_k9 hk)
  unfold V.agg
  go_enter Tryz.func133, Tryz.ntmps133
  go_wp2_with fail
  go_quiet (fail)
  go_wp2_with (go_at_call 67; go_in)
  all_goals go_ret
  all_goals refine ⟨ret_bool ?_, by first | exact below_drewN ((Below.refl _ _).alloc (Nat.le_refl _) _) _ | exact bl_q hb1⟩
  all_goals try generalize ((v.kids.length : Int) == 0) = bl at *
  all_goals try generalize ((v.kids.length : Int) == 1) = bl at *
  all_goals first
    | (simp [HO.out, *]; done)
    | (simp [HO.out, *]; intro; omega)
    | (simp [HO.out, *]; cases v.s.toList <;> rfl)

set_option maxHeartbeats 4000000 in
theorem specOwn_4 (v : V) (A : Option Addr) (cap : Nat) (w : World) (hk : v.k = 4) (hl : v.kids.length ≤ 1048576) :
    Calls Tryz.prog 133 #[v.agg A cap] w fun e w' => e = .returned (.bool (decide (ownOk v))) ∧ Below w.heap.size w w' := by
  have HO := Lib.hid (own_k4 hk)
  unfold V.agg
  go_enter Tryz.func133, Tryz.ntmps133
  go_wp2_with fail
  go_quiet (fail)
  go_wp2_with (first | (go_at_call 67; go_in) | (go_at_call 168; refine (specWhole v.n v.e _ (by unfold inR; omega) (by omega)).mono ?_; rintro e w1 ⟨rfl, rfl⟩))
  all_goals go_ret
  all_goals refine ⟨ret_bool ?_, below_drewN ((Below.refl _ _).alloc (Nat.le_refl _) _) _⟩
  all_goals first
    | (refine Eq.symm (decide_eq_false (fun h => ?_)); have h := HO.out.1 h; obtain ⟨⟨q1, q2, q3, q4, q5, q6, q7⟩, q8, q9⟩ := h; first | omega | (rw [beq_iff_eq] at q9; simp_all; done) | (simp_all; done))
    | (have hb := dec_bool (n := v.n) (e := v.e) (by omega) (by omega) (by omega) (by omega) (by omega) (by assumption)
       rw [Bool.eq_iff_iff, decide_eq_true_iff, HO.out, ← hb]
       simp [*])

theorem specOwn_else (v : V) (A : Option Addr) (cap : Nat) (w : World) (hk : v.k < 0 ∨ 9 < v.k) :
    Calls Tryz.prog 133 #[v.agg A cap] w fun e w' => e = .returned (.bool (decide (ownOk v))) ∧ Below w.heap.size w w' := by
  have HO := Lib.hid (own_else hk)
  have q0 : (v.k == 0) = false := by rw [beq_eq_false_iff_ne]; omega
  have q1 : (v.k == 1) = false := by rw [beq_eq_false_iff_ne]; omega
  have q2 : (v.k == 2) = false := by rw [beq_eq_false_iff_ne]; omega
  have q3 : (v.k == 3) = false := by rw [beq_eq_false_iff_ne]; omega
  have q4 : (v.k == 4) = false := by rw [beq_eq_false_iff_ne]; omega
  have q5 : (v.k == 5) = false := by rw [beq_eq_false_iff_ne]; omega
  have q6 : (v.k == 6) = false := by rw [beq_eq_false_iff_ne]; omega
  have q7 : (v.k == 7) = false := by rw [beq_eq_false_iff_ne]; omega
  have q8 : (v.k == 8) = false := by rw [beq_eq_false_iff_ne]; omega
  have q9 : (v.k == 9) = false := by rw [beq_eq_false_iff_ne]; omega
  clear hk
  unfold V.agg
  go_enter Tryz.func133, Tryz.ntmps133
  go_wp2_with fail
  go_quiet (fail)
  go_wp2_with fail
  go_ret
  exact ⟨ret_bool (decide_eq_false HO.out).symm, below_drewN ((Below.refl _ _).alloc (Nat.le_refl _) _) _⟩
theorem specOwn (v : V) (A : Option Addr) (cap : Nat) (w : World) (hl : v.kids.length ≤ 1048576) (hs : v.s.size ≤ 1048576) (hat : Vs.at_ w 0 w.heap.size v.kids A) :
    Calls Tryz.prog 133 #[v.agg A cap] w fun e w' => e = .returned (.bool (decide (ownOk v))) ∧ Below w.heap.size w w' := by
  rcases (show v.k = 0 ∨ v.k = 1 ∨ v.k = 2 ∨ v.k = 3 ∨ v.k = 4 ∨ v.k = 5 ∨ v.k = 6 ∨ v.k = 7 ∨ v.k = 8 ∨ v.k = 9 ∨ (v.k < 0 ∨ 9 < v.k) by omega) with h | h | h | h | h | h | h | h | h | h | h
  · exact specOwn_0 v A cap w h hl
  · exact specOwn_1 v A cap w h hl
  · exact specOwn_2 v A cap w h hl
  · exact specOwn_3 v A cap w h hl
  · exact specOwn_4 v A cap w h hl
  · exact specOwn_5 v A cap w h hl hs
  · exact specOwn_6 v A cap w h hl
  · exact specOwn_7 v A cap w h hl
  · exact specOwn_8 v A cap w h hl hat
  · exact specOwn_9 v A cap w h hl
  · exact specOwn_else v A cap w h
end Go.Proofs.YtbfddabljkoapaaGreatDoor

/-
  ValueOk of the reference.
-/
namespace Go.Proofs.YtbfddabljkoapaaGreatDoor
open Go.RowKit
set_option linter.unusedVariables false
set_option maxRecDepth 100000

theorem Vs.weight_get {l : List V} (i : Nat) (h : i < l.length) : (l[i]).weight + 1 ≤ Vs.weight l := by
  have h1 := Vs.weight_step l i h
  have h2 := Vs.weight_take l (i + 1)
  omega
theorem V.weight_kids (v : V) : v.s.size ≤ v.weight ∧ v.kids.length ≤ v.weight ∧ Vs.weight v.kids ≤ v.weight := by
  have := V.weight_eq v
  have := Vs.len_le v.kids
  omega
def SpecRightSaid (v : V) : Prop := ∀ (d : Int) (A : Option Addr) (cap : Nat) (w : World), v.weight ≤ 1048576 → -1 ≤ d → d ≤ 12 → Vs.at_ w 0 w.heap.size v.kids A →
    Calls Tryz.prog 91 #[v.agg A cap, .int .i64 d] w fun e w' => e = .returned (.bool (decide (V.right d v))) ∧ Below w.heap.size w w'

set_option maxHeartbeats 2000000 in
theorem specRight_step (v : V) (hk : ∀ i (h : i < v.kids.length), SpecRightSaid v.kids[i]) : SpecRightSaid v := by
  intro d A cap w hw hd1 hd2 hat
  obtain ⟨hw1, hw2, hw3⟩ := V.weight_kids v
  have HE := Lib.hid (V.right_eq d v)
  by_cases hd : d < 0
  · have HN : Hid (¬ V.right d v) := Lib.hid (fun h => by have := (HE.out.1 h).1; omega)
    unfold V.agg
    go_enter Tryz.func91, Tryz.ntmps91
    go_wp2_with fail
    go_ret
    exact ⟨ret_bool (decide_eq_false HN.out).symm, (Below.refl _ _).alloc (Nat.le_refl _) _⟩
  · have hdd : decide (d < 0) = false := decide_eq_false hd
    have hC := fun (i : Nat) (h : i < v.kids.length) (A' : Option Addr) (c : Nat) (w' : World) (h1 : Vs.at_ w' 0 w'.heap.size (v.kids[i]).kids A') => hk i h (d - 1) A' c w' (by have := Vs.weight_get i h; omega) (by omega) (by omega) h1
    have HC := Lib.hid hC
    have HA := Lib.hid hat
    clear hC hk hat
    unfold V.agg
    go_enter Tryz.func91, Tryz.ntmps91
    go_wp2_with fail
    refine (specOwn v A cap _ (by omega) (by omega) (Vs.at_more (Nat.le_refl _) (by simp) _ _ (Vs.at_alloc HA.out (Nat.le_refl _) _))).mono ?_
    rintro e w1 ⟨rfl, hb1⟩
    have B1 := (Blk.new _ _ _).below hb1 (by simp)
    have b1 : Below w.heap.size w w1 := ((Below.refl _ w).alloc (Nat.le_refl _) _).trans (hb1.mono (by simp))
    clear hb1
    by_cases ho : ownOk v
    · rw [show decide (ownOk v) = true from decide_eq_true ho]
      have HO := Lib.hid ho
      clear ho
      go_wp2_with fail
      go_loopw [5] (fun i wr => ∃ j : Nat, j ≤ v.kids.length ∧ i = .int .i64 j ∧ Vs.right (d - 1) (v.kids.take j) ∧ Blk wr w.heap.size 43 #[.int .i64 v.k, .int .i64 v.n, .int .i64 v.e, .string v.s, .slice A v.kids.length cap] ∧ Below w.heap.size w wr) (fun i _ => v.kids.length - (intOf i).toNat)
      case atStart => exact ⟨0, Nat.zero_le _, rfl, by simp [Vs.right], B1, b1⟩
      case round =>
        obtain ⟨j, hj, rfl, hr, B, hb⟩ := hrel
        have HR := Lib.hid hr
        clear hr
        have b4 : wr.cell? ⟨w.heap.size, 4, none⟩ = some (.slice A v.kids.length cap) := B.cell 4
        by_cases hlt : j < v.kids.length
        · obtain ⟨b, off, A', cap', rfl, g1, g2, g3, ⟨c0, c1, c2, c3, c4⟩, g5⟩ := Vs.at_get j hlt (Vs.at_below HA.out hb (Nat.le_refl _))
          go_wp2_with fail
          refine (HC.out j hlt A' cap' _ (Vs.at_more (Nat.le_refl _) hb.size _ _ g5)).mono ?_
          rintro e w2 ⟨rfl, hb2⟩
          have hbw : Below w.heap.size w w2 := hb.trans (hb2.mono hb.size)
          have B' := B.below hb2 B.lt
          clear c0 c1 c2 c3 c4 b4
          by_cases hv : V.right (d - 1) v.kids[j]
          · rw [show decide (V.right (d - 1) v.kids[j]) = true from decide_eq_true hv]
            have HV := Lib.hid (Vs.right_step (d - 1) v.kids j hlt HR.out hv)
            clear hv
            go_wp2_with fail
            go_roundw
            case rel => exact ⟨j + 1, by omega, by go_num, HV.out, B', hbw⟩
            case measure => simp [intOf]; omega
          · rw [show decide (V.right (d - 1) v.kids[j]) = false from decide_eq_false hv]
            have HN : Hid (¬ V.right d v) := Lib.hid (fun h => hv ((Vs.right_iff _ _).1 (HE.out.1 h).2.2 j hlt))
            clear hv
            go_wp2_with fail
            go_ret
            exact ⟨ret_bool (decide_eq_false HN.out).symm, hbw⟩
        · obtain rfl : j = v.kids.length := by omega
          have HY : Hid (V.right d v) := Lib.hid (HE.out.2 ⟨by omega, HO.out, Vs.right_take _ _ HR.out⟩)
          go_wp2_with fail
          go_ret
          exact ⟨ret_bool (decide_eq_true HY.out).symm, hb⟩
    · rw [show decide (ownOk v) = false from decide_eq_false ho]
      have HN : Hid (¬ V.right d v) := Lib.hid (fun h => ho (HE.out.1 h).2.1)
      clear ho
      go_wp2_with fail
      go_ret
      exact ⟨ret_bool (decide_eq_false HN.out).symm, b1⟩
theorem specRight : ∀ v, SpecRightSaid v := V.all specRight_step

set_option maxHeartbeats 2000000 in
theorem specValueOk (v : V) (A : Option Addr) (cap : Nat) (w : World) (hw : v.weight ≤ 1048576) (hat : Vs.at_ w 0 w.heap.size v.kids A) :
    Calls Tryz.prog 42 #[v.agg A cap] w fun e w' => e = .returned (.bool (decide (okV v))) ∧ Below w.heap.size w w' := by
  have HA := Lib.hid hat
  have hn : v.nodes ≤ 1048577 := by have := V.nodes_weight v; omega
  clear hat
  unfold V.agg
  go_enter Tryz.func42, Tryz.ntmps42
  go_wp2_with fail
  refine (specRight v 12 A cap _ hw (by omega) (by omega) (Vs.at_more (Nat.le_refl _) (by simp) _ _ (Vs.at_alloc HA.out (Nat.le_refl _) _))).mono ?_
  rintro e w1 ⟨rfl, hb1⟩
  obtain ⟨p0, p1, p2, p3, p4⟩ := ((Blk.new _ _ _).below hb1 (by simp)).five
  have b1 : Below w.heap.size w w1 := ((Below.refl _ w).alloc (Nat.le_refl _) _).trans (hb1.mono (by simp))
  by_cases hr : V.right 12 v
  · rw [show decide (V.right 12 v) = true from decide_eq_true hr]
    have HK : Hid (decide (okV v) = decide ((v.nodes : Int) ≤ 300)) := Lib.hid (decide_eq_decide.2 ⟨fun h => by have := h.2; omega, fun h => ⟨hr, by omega⟩⟩)
    clear hr hb1
    go_wp2_with fail
    refine (specNodes v A cap _ hn (Vs.at_more (Nat.le_refl _) b1.size _ _ (Vs.at_below HA.out b1 (Nat.le_refl _)))).mono ?_
    rintro e w2 ⟨rfl, hb2⟩
    go_wp2_with fail
    go_ret
    exact ⟨ret_bool HK.out.symm, b1.trans (hb2.mono b1.size)⟩
  · rw [show decide (V.right 12 v) = false from decide_eq_false hr]
    have HK : Hid (decide (okV v) = false) := Lib.hid (decide_eq_false fun h => hr h.1)
    clear hr hb1
    go_wp2_with fail
    go_ret
    exact ⟨ret_bool HK.out.symm, b1⟩
end Go.Proofs.YtbfddabljkoapaaGreatDoor

/-
  Norm of the reference.
-/
namespace Go.Proofs.YtbfddabljkoapaaGreatDoor
open Go.RowKit
set_option linter.unusedVariables false
set_option linter.unusedSimpArgs false
set_option maxRecDepth 100000

theorem tdiv_tenS {n x : Int} {k : Nat} (h : n = x * 10 ^ k) (hm : Int.tmod x 10 = 0) : n = Int.tdiv x 10 * 10 ^ (k + 1) := by
  have h1 := Int.tmod_add_mul_tdiv x 10
  rw [Int.pow_succ, Int.mul_comm (10 ^ k) 10, ← Int.mul_assoc, h]
  congr 1
  omega
theorem inR_tdivS {x : Int} (h : inR x) : inR (Int.tdiv x 10) := by
  have h1 := Int.tmod_add_mul_tdiv x 10
  have h3 : -10 < Int.tmod x 10 ∧ Int.tmod x 10 < 10 := by
    constructor
    · have := Int.lt_tmod_of_pos x (show (0 : Int) < 10 by omega); omega
    · exact Int.tmod_lt_of_pos _ (by omega)
  unfold inR at *
  omega
theorem tdiv_smallS {x : Int} (hx : x ≠ 0) : (Int.tdiv x 10).natAbs < x.natAbs := by
  rw [Int.natAbs_tdiv]
  exact Nat.div_lt_self (by omega) (by decide)
theorem tdiv_neS {x : Int} (hx : x ≠ 0) (hm : Int.tmod x 10 = 0) : Int.tdiv x 10 ≠ 0 := by
  have h1 := Int.tmod_add_mul_tdiv x 10
  intro h
  rw [hm, h] at h1
  omega
theorem big_power {x e : Int} (hx : x ≠ 0) (he : 20 < e) : ¬ (0 ≤ e ∧ inR (x * 10 ^ e.toNat)) := fun h => by
  have := pow_big hx h.2
  omega
/-- One step more. -/
theorem mul_step (x : Int) (i : Nat) : x * 10 ^ (i + 1) = x * 10 ^ i * 10 := by rw [Int.pow_succ, Int.mul_assoc]
theorem inR_less {x : Int} {i k : Nat} (h : i ≤ k) (hk : inR (x * 10 ^ k)) : inR (x * 10 ^ i) := by
  have e : x * 10 ^ k = x * 10 ^ i * 10 ^ (k - i) := by rw [Int.mul_assoc, ← Int.pow_add, show i + (k - i) = k by omega]
  rw [e] at hk
  exact inR_of_mul hk

set_option maxHeartbeats 1000000 in
theorem specTen (n : Int) (w : World) (hn : inR n) :
    Calls Tryz.prog 75 #[.int .i64 n] w fun e w' => e = .returned (.tuple #[.int .i64 (wrap64 (n * 10)), .bool (decide (inR (n * 10)))]) ∧ w = w' := by
  have hw := wrap_ten hn
  have HW : Hid ((wrap64 (Int.tdiv (wrap64 (n * 10)) 10) == n) = decide (inR (n * 10))) := Lib.hid (by
    rw [wrap_tdiv, Bool.eq_iff_iff, beq_iff_eq, decide_eq_true_iff]
    exact hw)
  have hr := hn
  unfold inR at hr
  clear hw hn
  go_enter Tryz.func75, Tryz.ntmps75
  go_wp2_with fail
  go_ret2
  exact ⟨by rw [HW.out]; rfl, rfl⟩
set_option maxHeartbeats 1000000 in
theorem specInt (n : Int) (w : World) : Calls Tryz.prog 74 #[.int .i64 n] w fun e w' => e = .returned ((V.int n).agg none 0) ∧ Below w.heap.size w w' := by
  go_enter Tryz.func74, Tryz.ntmps74
  go_wp2_with fail
  refine bodyPost_ret (v := .agg #[.int .i64 3, .int .i64 n, .int .i64 0, .string ⟨#[]⟩, .slice none 0 0]) (by simp [results, Tryz.results74, go_sem]) rfl ⟨rfl, ?_⟩
  repeat (first | exact (Below.refl _ w).alloc (Nat.le_refl _) _ | (refine Below.setCell ?_ (by simp) _))

set_option maxHeartbeats 8000000 in
theorem specNorm_out (n e : Int) (w : World) (he : ¬ (-1000 ≤ e ∧ e ≤ 1000)) : Calls Tryz.prog 33 #[.int .i64 n, .int .i64 e] w (NormRet n e w) := by
  have HN := Lib.hid (normR_out (n := n) he)
  rcases (show decide (-1000 ≤ e) = false ∨ (decide (-1000 ≤ e) = true ∧ decide (e ≤ 1000) = false) by
    by_cases h : -1000 ≤ e
    · exact .inr ⟨decide_eq_true h, decide_eq_false (fun h2 => he ⟨h, h2⟩)⟩
    · exact .inl (decide_eq_false h)) with hc | hc
  all_goals
    clear he
    go_enter Tryz.func33, Tryz.ntmps33
    go_wp2_with (go_at_call 67; go_in)
    refine bodyPost_ret (v := .tuple #[.agg #[.int .i64 0, .int .i64 0, .int .i64 0, .string ⟨#[]⟩, .slice none 0 0], .bool false]) (by simp [results, Tryz.results33, go_sem]) rfl (normRet_none HN.out rfl ?_)
    repeat (first | exact (Below.refl _ w).alloc (Nat.le_refl _) _ | (refine Below.setCell ?_ (by simp) _))

set_option maxHeartbeats 8000000 in
theorem specNorm_zero (e : Int) (w : World) (he : -1000 ≤ e ∧ e ≤ 1000) : Calls Tryz.prog 33 #[.int .i64 0, .int .i64 e] w (NormRet 0 e w) := by
  have HN := Lib.hid (normR_zero he)
  have hd1 : decide (-1000 ≤ e) = true := decide_eq_true he.1
  have hd2 : decide (e ≤ 1000) = true := decide_eq_true he.2
  clear he
  go_enter Tryz.func33, Tryz.ntmps33
  go_wp2_with (go_at_call 67; go_in)
  have B0 := Blk.new w 43 #[.int .i64 0, .int .i64 0, .int .i64 0, .string ⟨#[]⟩, .slice none 0 0]
  have b0 : Below w.heap.size w (w.alloc (.cells #[.int .i64 0, .int .i64 0, .int .i64 0, .string ⟨#[]⟩, .slice none 0 0] 43)) := (Below.refl _ w).alloc (Nat.le_refl _) _
  refine (specInt 0 _).mono ?_
  rintro r w1 ⟨rfl, hb1⟩
  have B1 := B0.below hb1 B0.lt
  obtain ⟨q0, q1, q2, q3, q4⟩ := B1.five
  have f0 := B1.frozen 0
  have f1 := B1.frozen 1
  have f2 := B1.frozen 2
  have f3 := B1.frozen 3
  have f4 := B1.frozen 4
  have b1 := b0.trans (hb1.mono b0.size)
  have HB1 := Lib.hid b1
  clear B0 b0 hb1 B1 b1
  unfold V.agg
  go_wp2_with fail
  refine bodyPost_ret (v := .tuple #[.agg #[.int .i64 3, .int .i64 0, .int .i64 0, .string ⟨#[]⟩, .slice none 0 0], .bool true]) (by simp [results, Tryz.results33, go_sem, q0, q1, q2, q3, q4, V.int, V.k, V.n, V.e, V.s, V.kids]) rfl (normRet_some HN.out rfl ?_)
  repeat (first | exact HB1.out | (refine Below.setCell ?_ (by simp) _))

set_option maxHeartbeats 8000000 in
theorem specNorm_in (n e : Int) (w : World) (hn : inR n) (h0 : n ≠ 0) (he : -1000 ≤ e ∧ e ≤ 1000) : Calls Tryz.prog 33 #[.int .i64 n, .int .i64 e] w (NormRet n e w) := by
  have hd1 : decide (-1000 ≤ e) = true := decide_eq_true he.1
  have hd2 : decide (e ≤ 1000) = true := decide_eq_true he.2
  have hq0 : (n == 0) = false := by simpa using h0
  obtain ⟨he1, he2⟩ := he
  have HN := Lib.hid hn
  have H0 := Lib.hid h0
  clear hn h0
  go_enter Tryz.func33, Tryz.ntmps33
  go_wp2_with (go_at_call 67; go_in)
  obtain ⟨w0, hw0⟩ : ∃ w0, w0 = w.alloc (.cells #[.int .i64 0, .int .i64 0, .int .i64 0, .string ⟨#[]⟩, .slice none 0 0] 43) := ⟨_, rfl⟩
  have B0 : Blk w0 w.heap.size 43 #[.int .i64 0, .int .i64 0, .int .i64 0, .string ⟨#[]⟩, .slice none 0 0] := by rw [hw0]; exact Blk.new w _ _
  have b0 : Below w.heap.size w w0 := by rw [hw0]; exact (Below.refl _ w).alloc (Nat.le_refl _) _
  rw [← hw0]
  have lv := B0.lt
  have HB0 := Lib.hid b0
  have HV0 := Lib.hid B0
  clear hw0 B0 b0
  go_loop [0, 1] (fun z y => ∃ (x : Int) (k : Nat), z = .int .i64 x ∧ y = .int .i64 (e + k) ∧ n = x * 10 ^ k ∧ inR x ∧ x ≠ 0) (fun z _ => (intOf z).natAbs)
  case atStart => exact ⟨n, 0, rfl, by simp, by simp, HN.out, H0.out⟩
  case round =>
    obtain ⟨x, k, rfl, rfl, hnx, hx, hx0⟩ := hrel
    have hxr := hx
    unfold inR at hxr
    have HX := Lib.hid hx
    have HNX := Lib.hid hnx
    obtain ⟨q0, q1, q2, q3, q4⟩ := HV0.out.five
    have f0 := HV0.out.frozen 0
    have f1 := HV0.out.frozen 1
    have f2 := HV0.out.frozen 2
    have f3 := HV0.out.frozen 3
    have f4 := HV0.out.frozen 4
    have hk18 : k ≤ 18 := pow_big hx0 (by rw [← hnx]; exact HN.out)
    by_cases hm : Int.tmod x 10 = 0
    · have qm : (Int.tmod x 10 == 0) = true := by rw [hm]; rfl
      have hq := inR_tdivS hx
      have hqr := hq
      unfold inR at hqr
      have HQ := Lib.hid hq
      have HT := Lib.hid (tdiv_tenS hnx hm)
      have HS := Lib.hid (tdiv_smallS hx0)
      have HNE := Lib.hid (tdiv_neS hx0 hm)
      clear hx hnx hm hx0 hq
      go_wp2_with fail
      go_round
      case rel => exact ⟨Int.tdiv x 10, k + 1, by go_num, by go_num, HT.out, HQ.out, HNE.out⟩
      case measure => simp only [intOf]; first | exact HS.out | (have := HS.out; go_num; omega)
    · have qm : (Int.tmod x 10 == 0) = false := by simpa using hm
      have HR := Lib.hid (normR_of ⟨he1, he2⟩ HN.out hm hnx)
      have HX0 := Lib.hid hx0
      clear hm hnx hx0
      by_cases hp : 0 ≤ e + (k : Int) ∧ e + (k : Int) ≤ 20
      · obtain ⟨hp1, hp2⟩ := hp
        have qp : decide (0 ≤ e + (k : Int)) = true := decide_eq_true hp1
        have qp2 : decide (e + (k : Int) ≤ 20) = true := decide_eq_true hp2
        obtain ⟨p, hpp⟩ := Int.eq_ofNat_of_zero_le hp1
        have HPP := Lib.hid hpp
        have hpt : (e + (k : Int)).toNat = p := by omega
        have HPT := Lib.hid hpt
        have hp20 : p ≤ 20 := by omega
        clear hx hpp hpt
        go_wp2_with fail
        go_loop [6, 7, 8] (fun m ok i => ∃ (j : Nat) (b : Bool) (y : Int), j ≤ p ∧ i = .int .i64 j ∧ ok = .bool b ∧ m = .int .i64 y ∧ ((b = true ∧ y = x * 10 ^ j ∧ inR (x * 10 ^ j)) ∨ (b = false ∧ ¬ inR (x * 10 ^ p)))) (fun _ ok i => 2 * (p - (intOf i).toNat) + (if ok = .bool true then 1 else 0))
        case atStart => exact ⟨0, true, x, Nat.zero_le _, rfl, rfl, rfl, .inl ⟨rfl, by simp, by simpa using HX.out⟩⟩
        case round =>
          obtain ⟨j, b, y, hj, rfl, rfl, rfl, hb⟩ := hrel
          rcases hb with ⟨rfl, hy, hin⟩ | ⟨rfl, hout⟩
          · by_cases hjp : j < p
            · have qj : decide ((j : Int) < e + (k : Int)) = true := decide_eq_true (by have := HPP.out; omega)
              rw [← hy] at hin
              have hyr := hin
              unfold inR at hyr
              have HIN := Lib.hid hin
              have HY := Lib.hid hy
              have hye : x * 10 ^ (j + 1) = y * 10 := by rw [mul_step, ← hy]
              have HYE := Lib.hid hye
              clear hy hin hye
              by_cases h10 : inR (y * 10)
              · have h10r := h10
                unfold inR at h10r
                have hw10 : wrap64 (y * 10) = y * 10 := by rw [wrap64_eq]; omega
                have HD := Lib.hid (decide_eq_true h10)
                have HI := Lib.hid h10
                clear h10
                go_wp2_with fail
                refine (specTen y w0 HIN.out).mono ?_
                rintro r w1 ⟨rfl, rfl⟩
                rw [HD.out, hw10]
                go_wp2_with fail
                go_round
                case rel => exact ⟨j + 1, true, y * 10, by omega, by go_num, rfl, rfl, .inl ⟨rfl, HYE.out.symm, by rw [HYE.out]; exact HI.out⟩⟩
                case measure => simp [intOf]; omega
              · have HD := Lib.hid (decide_eq_false h10)
                have HO : Hid (¬ inR (x * 10 ^ p)) := Lib.hid (fun h => h10 (by rw [← HYE.out]; exact inR_less (by omega) h))
                obtain ⟨y2, hy2⟩ : ∃ y2, wrap64 (y * 10) = y2 := ⟨_, rfl⟩
                clear h10
                go_wp2_with fail
                refine (specTen y w0 HIN.out).mono ?_
                rintro r w1 ⟨rfl, rfl⟩
                rw [HD.out, hy2]
                clear hy2
                go_wp2_with fail
                go_round
                case rel => exact ⟨j + 1, false, y2, by omega, by go_num, rfl, rfl, .inr ⟨rfl, HO.out⟩⟩
                case measure => simp [intOf]; omega
            · obtain rfl : j = p := by omega
              have qj : decide ((j : Int) < e + (k : Int)) = false := decide_eq_false (by have := HPP.out; omega)
              have HRV : Hid (normR n e = some (V.int y)) := Lib.hid (by
                rw [HR.out, normV_pos_some hp1 (by rw [HPT.out]; exact hin), HPT.out, ← hy])
              clear hy hin
              go_wp2_with fail
              refine (specInt y w0).mono ?_
              rintro r w1 ⟨rfl, hb1⟩
              have B1 := HV0.out.below hb1 lv
              have hl1 := B1.lt
              have HB1 : Hid (Below w.heap.size w w1) := Lib.hid (HB0.out.trans (hb1.mono HB0.out.size))
              clear q0 q1 q2 q3 q4 f0 f1 f2 f3 f4
              obtain ⟨q0, q1, q2, q3, q4⟩ := B1.five
              have f0 := B1.frozen 0
              have f1 := B1.frozen 1
              have f2 := B1.frozen 2
              have f3 := B1.frozen 3
              have f4 := B1.frozen 4
              clear hb1 B1
              unfold V.agg
              go_wp2_with fail
              refine bodyPost_ret (v := .tuple #[.agg #[.int .i64 3, .int .i64 y, .int .i64 0, .string ⟨#[]⟩, .slice none 0 0], .bool true]) (by simp [results, Tryz.results33, go_sem, q0, q1, q2, q3, q4, V.int, V.k, V.n, V.e, V.s, V.kids]) rfl (normRet_some HRV.out rfl ?_)
              repeat (first | exact HB1.out | (refine Below.setCell ?_ (by simp) _))
          · have HNO : Hid (¬ (0 ≤ e + (k : Int) ∧ inR (x * 10 ^ (e + (k : Int)).toNat))) := Lib.hid (fun h => hout (by rw [← HPT.out]; exact h.2))
            clear hout
            by_cases hjp : j < p
            · have qj : decide ((j : Int) < e + (k : Int)) = true := decide_eq_true (by have := HPP.out; omega)
              go_wp2_with fail
              obtain ⟨w2, hw2⟩ : ∃ w2, w2 = w0.alloc (.cells #[.int .i64 4, .int .i64 x, .int .i64 (e + k), .string ⟨#[]⟩, .slice none 0 0] 43) := ⟨_, rfl⟩
              have B2 : Blk w2 w0.heap.size 43 #[.int .i64 4, .int .i64 x, .int .i64 (e + k), .string ⟨#[]⟩, .slice none 0 0] := by rw [hw2]; exact Blk.new w0 _ _
              have bx2 : Below w0.heap.size w0 w2 := by rw [hw2]; exact (Below.refl _ w0).alloc (Nat.le_refl _) _
              rw [← hw2]
              clear hw2
              refine (specValueOk (V.dec x (e + k)) none 0 w2 (by simp [V.dec, V.weight, Vs.weight, ByteArray.size]) (by simp [V.dec, V.kids, Vs.at_])).mono ?_
              rintro r w3 ⟨rfl, hb3⟩
              have b03 : Below w0.heap.size w0 w3 := bx2.trans (hb3.mono bx2.size)
              have B3 := B2.below hb3 B2.lt
              have V3 := HV0.out.below b03 lv
              have bw3 : Below w.heap.size w w3 := HB0.out.trans (b03.mono HB0.out.size)
              have HBW := Lib.hid bw3
              have hl3 := V3.lt
              clear q0 q1 q2 q3 q4 f0 f1 f2 f3 f4
              obtain ⟨q0, q1, q2, q3, q4⟩ := V3.five
              obtain ⟨r0, r1, r2, r3, r4⟩ := B3.five
              have f0 := V3.frozen 0
              have f1 := V3.frozen 1
              have f2 := V3.frozen 2
              have f3 := V3.frozen 3
              have f4 := V3.frozen 4
              clear hb3 b03 bx2 B2 B3 V3 bw3
              by_cases hd : decOk x (e + k)
              · rw [show decide (okV (V.dec x (e + k))) = true from decide_eq_true ((okV_dec _ _).2 hd)]
                have HRV := Lib.hid (HR.out.trans (normV_dec HNO.out hd))
                clear hd
                go_wp2_with fail
                refine bodyPost_ret (v := .tuple #[.agg #[.int .i64 4, .int .i64 x, .int .i64 (e + k), .string ⟨#[]⟩, .slice none 0 0], .bool true]) (by simp [results, Tryz.results33, go_sem, q0, q1, q2, q3, q4]) rfl (normRet_some HRV.out rfl ?_)
                repeat (first | exact HBW.out | (refine Below.setCell ?_ (by simp) _))
              · rw [show decide (okV (V.dec x (e + k))) = false from decide_eq_false (fun h => hd ((okV_dec _ _).1 h))]
                have HRV := Lib.hid (HR.out.trans (normV_none HNO.out hd))
                clear hd
                go_wp2_with fail
                refine bodyPost_ret (v := .tuple #[.agg #[.int .i64 0, .int .i64 0, .int .i64 0, .string ⟨#[]⟩, .slice none 0 0], .bool false]) (by simp [results, Tryz.results33, go_sem, q0, q1, q2, q3, q4]) rfl (normRet_none HRV.out rfl ?_)
                repeat (first | exact HBW.out | (refine Below.setCell ?_ (by simp) _))
            · have qj : decide ((j : Int) < e + (k : Int)) = false := decide_eq_false (by have := HPP.out; omega)
              go_wp2_with fail
              obtain ⟨w2, hw2⟩ : ∃ w2, w2 = w0.alloc (.cells #[.int .i64 4, .int .i64 x, .int .i64 (e + k), .string ⟨#[]⟩, .slice none 0 0] 43) := ⟨_, rfl⟩
              have B2 : Blk w2 w0.heap.size 43 #[.int .i64 4, .int .i64 x, .int .i64 (e + k), .string ⟨#[]⟩, .slice none 0 0] := by rw [hw2]; exact Blk.new w0 _ _
              have bx2 : Below w0.heap.size w0 w2 := by rw [hw2]; exact (Below.refl _ w0).alloc (Nat.le_refl _) _
              rw [← hw2]
              clear hw2
              refine (specValueOk (V.dec x (e + k)) none 0 w2 (by simp [V.dec, V.weight, Vs.weight, ByteArray.size]) (by simp [V.dec, V.kids, Vs.at_])).mono ?_
              rintro r w3 ⟨rfl, hb3⟩
              have b03 : Below w0.heap.size w0 w3 := bx2.trans (hb3.mono bx2.size)
              have B3 := B2.below hb3 B2.lt
              have V3 := HV0.out.below b03 lv
              have bw3 : Below w.heap.size w w3 := HB0.out.trans (b03.mono HB0.out.size)
              have HBW := Lib.hid bw3
              have hl3 := V3.lt
              clear q0 q1 q2 q3 q4 f0 f1 f2 f3 f4
              obtain ⟨q0, q1, q2, q3, q4⟩ := V3.five
              obtain ⟨r0, r1, r2, r3, r4⟩ := B3.five
              have f0 := V3.frozen 0
              have f1 := V3.frozen 1
              have f2 := V3.frozen 2
              have f3 := V3.frozen 3
              have f4 := V3.frozen 4
              clear hb3 b03 bx2 B2 B3 V3 bw3
              by_cases hd : decOk x (e + k)
              · rw [show decide (okV (V.dec x (e + k))) = true from decide_eq_true ((okV_dec _ _).2 hd)]
                have HRV := Lib.hid (HR.out.trans (normV_dec HNO.out hd))
                clear hd
                go_wp2_with fail
                refine bodyPost_ret (v := .tuple #[.agg #[.int .i64 4, .int .i64 x, .int .i64 (e + k), .string ⟨#[]⟩, .slice none 0 0], .bool true]) (by simp [results, Tryz.results33, go_sem, q0, q1, q2, q3, q4]) rfl (normRet_some HRV.out rfl ?_)
                repeat (first | exact HBW.out | (refine Below.setCell ?_ (by simp) _))
              · rw [show decide (okV (V.dec x (e + k))) = false from decide_eq_false (fun h => hd ((okV_dec _ _).1 h))]
                have HRV := Lib.hid (HR.out.trans (normV_none HNO.out hd))
                clear hd
                go_wp2_with fail
                refine bodyPost_ret (v := .tuple #[.agg #[.int .i64 0, .int .i64 0, .int .i64 0, .string ⟨#[]⟩, .slice none 0 0], .bool false]) (by simp [results, Tryz.results33, go_sem, q0, q1, q2, q3, q4]) rfl (normRet_none HRV.out rfl ?_)
                repeat (first | exact HBW.out | (refine Below.setCell ?_ (by simp) _))
      · have HNO : Hid (¬ (0 ≤ e + (k : Int) ∧ inR (x * 10 ^ (e + (k : Int)).toNat))) := Lib.hid (fun h => by
          by_cases h20 : e + (k : Int) ≤ 20
          · exact hp ⟨h.1, h20⟩
          · exact big_power HX0.out (by omega) h)
        rcases (show decide (0 ≤ e + (k : Int)) = false ∨ (decide (0 ≤ e + (k : Int)) = true ∧ decide (e + (k : Int) ≤ 20) = false) by
          by_cases h : 0 ≤ e + (k : Int)
          · exact .inr ⟨decide_eq_true h, decide_eq_false (fun h2 => hp ⟨h, h2⟩)⟩
          · exact .inl (decide_eq_false h)) with hc | ⟨hc, hc2⟩
        all_goals
          clear hx hp
          go_wp2_with fail
          obtain ⟨w2, hw2⟩ : ∃ w2, w2 = w0.alloc (.cells #[.int .i64 4, .int .i64 x, .int .i64 (e + k), .string ⟨#[]⟩, .slice none 0 0] 43) := ⟨_, rfl⟩
          have B2 : Blk w2 w0.heap.size 43 #[.int .i64 4, .int .i64 x, .int .i64 (e + k), .string ⟨#[]⟩, .slice none 0 0] := by rw [hw2]; exact Blk.new w0 _ _
          have bx2 : Below w0.heap.size w0 w2 := by rw [hw2]; exact (Below.refl _ w0).alloc (Nat.le_refl _) _
          rw [← hw2]
          clear hw2
          refine (specValueOk (V.dec x (e + k)) none 0 w2 (by simp [V.dec, V.weight, Vs.weight, ByteArray.size]) (by simp [V.dec, V.kids, Vs.at_])).mono ?_
          rintro r w3 ⟨rfl, hb3⟩
          have b03 : Below w0.heap.size w0 w3 := bx2.trans (hb3.mono bx2.size)
          have B3 := B2.below hb3 B2.lt
          have V3 := HV0.out.below b03 lv
          have bw3 : Below w.heap.size w w3 := HB0.out.trans (b03.mono HB0.out.size)
          have HBW := Lib.hid bw3
          have hl3 := V3.lt
          clear q0 q1 q2 q3 q4 f0 f1 f2 f3 f4
          obtain ⟨q0, q1, q2, q3, q4⟩ := V3.five
          obtain ⟨r0, r1, r2, r3, r4⟩ := B3.five
          have f0 := V3.frozen 0
          have f1 := V3.frozen 1
          have f2 := V3.frozen 2
          have f3 := V3.frozen 3
          have f4 := V3.frozen 4
          clear hb3 b03 bx2 B2 B3 V3 bw3
          by_cases hd : decOk x (e + k)
          · rw [show decide (okV (V.dec x (e + k))) = true from decide_eq_true ((okV_dec _ _).2 hd)]
            have HRV := Lib.hid (HR.out.trans (normV_dec HNO.out hd))
            clear hd
            go_wp2_with fail
            refine bodyPost_ret (v := .tuple #[.agg #[.int .i64 4, .int .i64 x, .int .i64 (e + k), .string ⟨#[]⟩, .slice none 0 0], .bool true]) (by simp [results, Tryz.results33, go_sem, q0, q1, q2, q3, q4]) rfl (normRet_some HRV.out rfl ?_)
            repeat (first | exact HBW.out | (refine Below.setCell ?_ (by simp) _))
          · rw [show decide (okV (V.dec x (e + k))) = false from decide_eq_false (fun h => hd ((okV_dec _ _).1 h))]
            have HRV := Lib.hid (HR.out.trans (normV_none HNO.out hd))
            clear hd
            go_wp2_with fail
            refine bodyPost_ret (v := .tuple #[.agg #[.int .i64 0, .int .i64 0, .int .i64 0, .string ⟨#[]⟩, .slice none 0 0], .bool false]) (by simp [results, Tryz.results33, go_sem, q0, q1, q2, q3, q4]) rfl (normRet_none HRV.out rfl ?_)
            repeat (first | exact HBW.out | (refine Below.setCell ?_ (by simp) _))
theorem specNorm (n e : Int) (w : World) (hn : inR n) : Calls Tryz.prog 33 #[.int .i64 n, .int .i64 e] w (NormRet n e w) := by
  by_cases he : -1000 ≤ e ∧ e ≤ 1000
  · by_cases h0 : n = 0
    · subst h0; exact specNorm_zero e w he
    · exact specNorm_in n e w hn h0 he
  · exact specNorm_out n e w he
end Go.Proofs.YtbfddabljkoapaaGreatDoor

/-
  The draws of numbers.
-/
namespace Go.Proofs.YtbfddabljkoapaaGreatDoor
open Go.RowKit
set_option linter.unusedVariables false
set_option linter.unusedSimpArgs false
set_option maxRecDepth 100000

theorem dAny (b : Nat) (A : Option Addr) (cap : Nat) (code : List UInt8) (w : World) (hc : Cur w b A cap code) :
    Calls Tryz.prog 113 #[.pointer (some ⟨b, 0, none⟩)] w fun e w' => DV 1400 w w b A cap code e w' :=
  dAnyOf (mk_said 3 (Nat.le_refl 3)) b A cap code w hc
theorem inI_of {n : Int} (h : inR n) : inI n := by
  unfold inR at h
  unfold inI
  omega
theorem decOk_in {n e : Int} (hn : inR n) (h : decOk n e) : inI e := by
  unfold decOk at h
  unfold inI
  omega
theorem strip_in : ∀ (f : Nat) (n e : Int), inR n → inR (strip f n e).1
  | 0, n, e, h => h
  | f + 1, n, e, h => by
    unfold strip
    split
    · refine strip_in f _ _ ?_
      have h1 := Int.tmod_add_mul_tdiv n 10
      have h3 : -10 < Int.tmod n 10 ∧ Int.tmod n 10 < 10 := by
        constructor
        · have := Int.lt_tmod_of_pos n (show (0 : Int) < 10 by omega); omega
        · exact Int.tmod_lt_of_pos _ (by omega)
      unfold inR at *
      omega
    · exact h
theorem normD_leaf {n e : Int} (hn : inR n) : ∃ k n' x : Int, normD n e = .mk k n' x ⟨#[]⟩ [] ∧ inI k ∧ inI n' ∧ inI x := by
  have h0 : inI 0 := by unfold inI; omega
  have h3 : inI 3 := by unfold inI; omega
  have h4 : inI 4 := by unfold inI; omega
  unfold normD normR
  split
  · split
    · exact ⟨3, 0, 0, rfl, h3, h0, h0⟩
    · unfold normV
      have hs := strip_in 18 n e hn
      split
      · rename_i h
        exact ⟨3, _, 0, rfl, h3, inI_of h.2, h0⟩
      · split
        · rename_i h
          exact ⟨4, _, _, rfl, h4, inI_of hs, decOk_in hs h⟩
        · exact ⟨0, 0, 0, rfl, h0, h0, h0⟩
  · exact ⟨0, 0, 0, rfl, h0, h0, h0⟩
def numN : List Int := [0, 1, -1, 10, 15, -150, 9223372036854775807, -9223372036854775808, 123, 100]
def numE : List Int := [0, 0, -1, -2, 1, 2, 19, 20, -20]
theorem numN_in : ∀ z ∈ numN, inR z := by
  intro z hz
  simp only [numN, List.mem_cons, List.not_mem_nil, or_false] at hz
  unfold inR
  omega

set_option maxHeartbeats 8000000 in
theorem dNum (b : Nat) (A : Option Addr) (cap : Nat) (code : List UInt8) (w : World) (hc : Cur w b A cap code) :
    Calls Tryz.prog 76 #[.pointer (some ⟨b, 0, none⟩)] w fun e w' => DV 1400 w w b A cap code e w' := by
  have hbw : b < w.heap.size := hc.lt
  have hpb : w.heap.size ≠ b := by omega
  have B1 := Lib.hid (Blk.new w 43 #[.int .i64 0, .int .i64 0, .int .i64 0, .string ⟨#[]⟩, .slice none 0 0])
  have D1 := Lib.hid (Drawn.alloc hc (.cells #[.int .i64 0, .int .i64 0, .int .i64 0, .string ⟨#[]⟩, .slice none 0 0] 43))
  have Z1 : Hid ((w.alloc (.cells #[.int .i64 0, .int .i64 0, .int .i64 0, .string ⟨#[]⟩, .slice none 0 0] 43)).heap.size = w.heap.size + 1) := Lib.hid (by simp)
  clear hc
  go_enter Tryz.func76, Tryz.ntmps76
  go_wp2_with fail
  refine Calls.atW (fun w1 => Hid (Blk w1 w.heap.size 43 #[.int .i64 0, .int .i64 0, .int .i64 0, .string ⟨#[]⟩, .slice none 0 0]) ∧ Hid (Drawn w b A cap code w1) ∧ w1.heap.size = w.heap.size + 1) ⟨B1, D1, Z1.out⟩ ?_
  clear B1 D1 Z1
  rintro w1 ⟨B1, D1, Z1⟩
  refine (dOnce 6 b A cap code w1 (by omega) (by omega) D1.out.1).mono ?_
  rintro e w2 ⟨⟨r, rfl⟩, hd2⟩
  have D2 := Lib.hid (D1.out.trans hd2)
  have B2 := Lib.hid (res_cells B1.out hpb hd2.2)
  clear hd2 B1 D1 Z1
  cases r
  · go_wp2_with fail
    refine (dPickIntNew numN b A cap code _ (by decide) (by decide) D2.out.1).mono ?_
    rintro e w3 ⟨⟨z, hz, rfl⟩, hd3⟩
    have hzr := numN_in z hz
    have D3 := Lib.hid (D2.out.trans hd3)
    have B3 := Lib.hid (res_cells B2.out hpb hd3.2)
    clear hd3 B2 D2 hz
    go_wp2_with fail
    refine (dPickIntNew numE b A cap code _ (by decide) (by decide) D3.out.1).mono ?_
    rintro e w4 ⟨⟨x, hx, rfl⟩, hd4⟩
    have D4 := Lib.hid (D3.out.trans hd4)
    have B4 := Lib.hid (res_cells B3.out hpb hd4.2)
    clear hd4 B3 D3 hx
    go_wp2_with fail
    refine (specNorm z x w4 hzr).mono ?_
    rintro e w5 ⟨rfl, hb5⟩
    obtain ⟨k, n, y, hv, hk, hn, hy⟩ := normD_leaf (e := x) hzr
    rw [hv, agg_leaf]
    clear hv
    generalize normB z x = ok
    have D5 := Lib.hid (D4.out.trans (Drawn.of D4.out.1 hb5))
    have B5 := Lib.hid (B4.out.below hb5 B4.out.lt)
    have HZ5 : w.heap.size < w5.heap.size := B5.out.lt
    have hne : ¬ w5.heap.size = w.heap.size := by omega
    have hne2 : ¬ w.heap.size = w5.heap.size := by omega
    clear hb5 B4 D4
    cases ok
    · go_wp2_with fail
      refine Calls.atW (fun w6 => Hid (Blk w6 w.heap.size 43 #[.int .i64 0, .int .i64 0, .int .i64 0, .string ⟨#[]⟩, .slice none 0 0]) ∧ Hid (Drawn w b A cap code w6)) ⟨Lib.hid (B5.out.alloc _), Lib.hid (D5.out.trans (Drawn.alloc D5.out.1 _))⟩ ?_
      rintro w6 ⟨B6, D6⟩
      refine (dBelow 9 b A cap code w6 (by omega) (by omega) D6.out.1).mono ?_
      rintro e w7 ⟨⟨i, hi, rfl⟩, hd7⟩
      have D7 := Lib.hid (D6.out.trans hd7)
      have B7 := Lib.hid (res_cells B6.out hpb hd7.2)
      clear hd7 B6 D6
      go_wp2_with fail
      refine (drawInt (i : Int) w7).mono ?_
      rintro e w8 ⟨rfl, hb8⟩
      rw [agg_leaf]
      have D8 := Lib.hid (D7.out.trans (Drawn.of D7.out.1 hb8))
      have B8 := Lib.hid (B7.out.below hb8 B7.out.lt)
      have HZ8 : w.heap.size < w8.heap.size := B8.out.lt
      clear hb8 B7 D7
      have B9 := B8.out
      obtain ⟨p0, p1, p2, p3, p4⟩ := B9.five
      have f0 := B9.frozen 0
      have f1 := B9.frozen 1
      have f2 := B9.frozen 2
      have f3 := B9.frozen 3
      have f4 := B9.frozen 4
      clear B9
      go_wp2_with fail
      refine bodyPost_ret (v := .agg #[.int .i64 3, .int .i64 (i : Int), .int .i64 0, .string ⟨#[]⟩, .slice none 0 0]) (by simp [results, Tryz.results76, go_sem, p0, p1, p2, p3, p4]) rfl (DV.gr (k := 3) (n := (i : Int)) (x := 0) (s := ⟨#[]⟩) (es := []) (B := none) (c := 0) (G := []) (p := w.heap.size) (base := w8.heap.size) (w1 := w8) rfl ?hf ?hw (RowOf.none ⟨rfl, .inl ⟨rfl, rfl⟩⟩) HZ8 (Nat.le_refl _) D8.out hbw ?hd)
      case hw => rw [V.weight_eq]; show 0 + Vs.weight [] ≤ _; simp [Vs.weight]
      case hf => exact (V.fits_eq _).2 ⟨by show (0 : Nat) ≤ _; omega, by show (0 : Nat) ≤ _; omega, by show Vs.fits []; simp [Vs.fits], by show inI 3; unfold inI; omega, by show inI (i : Int); unfold inI; omega, by show inI 0; unfold inI; omega⟩
      case hd => repeat (first | exact Gr.refl _ _ | (refine Gr.trans ?_ (Gr.set _ _ _ _)))
    · have HC := Lib.hid (Blk.lt B5.out)
      have B9 := B5.out
      obtain ⟨p0, p1, p2, p3, p4⟩ := B9.five
      have f0 := B9.frozen 0
      have f1 := B9.frozen 1
      have f2 := B9.frozen 2
      have f3 := B9.frozen 3
      have f4 := B9.frozen 4
      clear B9
      go_wp2_with fail
      refine bodyPost_ret (v := .agg #[.int .i64 k, .int .i64 n, .int .i64 y, .string ⟨#[]⟩, .slice none 0 0]) (by simp [results, Tryz.results76, go_sem, p0, p1, p2, p3, p4, HZ5]) rfl (DV.leaf k n y ⟨#[]⟩ rfl hk hn hy (by decide) (by omega) (drawn_over D5.out hbw ?hd))
      case hd =>
        refine Below.alloc ?_ (by simp; omega) _
        repeat (first | exact Below.refl _ _ | (refine Below.setCell ?_ (by simp) _))
  · go_wp2_with fail
    refine (dAny b A cap code w2 D2.out.1).mono ?_
    rintro e w9 ⟨vk, vn, vx, vs, es, B, c, G, rfl, h1, h2, h4, h7⟩
    have H1 := Lib.hid h1
    have H2 := Lib.hid h2
    have H4 := Lib.hid h4
    have D9 := Lib.hid (D2.out.trans h7)
    have B8 := Lib.hid (res_cells B2.out hpb h7.2)
    have HZ9 := B2.out.lt
    clear h1 h2 h4 h7
    have B9 := B8.out
    obtain ⟨p0, p1, p2, p3, p4⟩ := B9.five
    have f0 := B9.frozen 0
    have f1 := B9.frozen 1
    have f2 := B9.frozen 2
    have f3 := B9.frozen 3
    have f4 := B9.frozen 4
    clear B9
    unfold V.agg
    go_wp2_with fail
    refine bodyPost_ret (v := (V.mk vk vn vx vs (es.map (·.1))).agg B c) (by simp [results, Tryz.results76, go_sem, p0, p1, p2, p3, p4, V.agg]) rfl (DV.gr (p := w.heap.size) rfl H1.out H2.out H4.out HZ9 (Nat.le_refl _) D9.out hbw ?hd)
    case hd => repeat (first | exact Gr.refl _ _ | (refine Gr.trans ?_ (Gr.set _ _ _ _)))
end Go.Proofs.YtbfddabljkoapaaGreatDoor

/-
  The reference's test of a number, and Whole.
-/
namespace Go.Proofs.YtbfddabljkoapaaGreatDoor
open Go.RowKit
set_option linter.unusedVariables false
set_option linter.unusedSimpArgs false
set_option maxRecDepth 100000

set_option maxHeartbeats 2000000 in
theorem specIs (v : V) (A : Option Addr) (cap : Nat) (w : World) (hw : v.weight ≤ 1048576) (hat : Vs.at_ w 0 w.heap.size v.kids A) :
    Calls Tryz.prog 96 #[v.agg A cap] w fun e w' => e = .returned (.bool (decide (numOk v))) ∧ Below w.heap.size w w' := by
  have HA := Lib.hid hat
  clear hat
  rcases (show ((v.k == 3) = true ∧ (v.k = 3 ∨ v.k = 4)) ∨ ((v.k == 3) = false ∧ (v.k == 4) = true ∧ (v.k = 3 ∨ v.k = 4)) ∨ ((v.k == 3) = false ∧ (v.k == 4) = false ∧ ¬ (v.k = 3 ∨ v.k = 4)) by
    by_cases h3 : v.k = 3
    · exact .inl ⟨by rw [h3]; rfl, .inl h3⟩
    · by_cases h4 : v.k = 4
      · exact .inr (.inl ⟨by simpa using h3, by rw [h4]; rfl, .inr h4⟩)
      · exact .inr (.inr ⟨by simpa using h3, by simpa using h4, fun h => h.elim h3 h4⟩)) with ⟨q3, hk⟩ | ⟨q3, q4, hk⟩ | ⟨q3, q4, hk⟩
  iterate 2
    have HK : Hid (okV v ↔ numOk v) := Lib.hid ⟨fun h => ⟨hk, h⟩, fun h => h.2⟩
    clear hk
    unfold V.agg
    go_enter Tryz.func96, Tryz.ntmps96
    go_wp2_with fail
    have b0 : Below w.heap.size w (w.alloc (.cells #[.int .i64 v.k, .int .i64 v.n, .int .i64 v.e, .string v.s, .slice A v.kids.length cap] 43)) := (Below.refl _ w).alloc (Nat.le_refl _) _
    refine (specValueOk v A cap _ hw (Vs.at_more (Nat.le_refl _) b0.size _ _ (Vs.at_below HA.out b0 (Nat.le_refl _)))).mono ?_
    rintro e w1 ⟨rfl, hb1⟩
    go_wp2_with fail
    go_ret
    exact ⟨ret_bool (decide_eq_decide.2 HK.out), b0.trans (hb1.mono b0.size)⟩
  have HN : Hid (¬ numOk v) := Lib.hid (fun h => hk h.1)
  clear hk
  unfold V.agg
  go_enter Tryz.func96, Tryz.ntmps96
  go_wp2_with fail
  go_ret
  exact ⟨ret_bool (decide_eq_false HN.out).symm, (Below.refl _ _).alloc (Nat.le_refl _) _⟩
theorem tup_ib {a a' : Int} {b b' : Bool} (h1 : a = a') (h2 : b = b') : Ending.returned (.tuple #[.int .i64 a, .bool b]) = Ending.returned (.tuple #[.int .i64 a', .bool b']) := by rw [h1, h2]
theorem pow_div_small {n : Int} (h : -9223372036854775808 ≤ n ∧ n ≤ 9223372036854775807) (j : Nat) : -9223372036854775808 ≤ n / 10 ^ j ∧ n / 10 ^ j ≤ 9223372036854775807 := by
  have hp : (1 : Int) ≤ 10 ^ j := by have : (0 : Int) < 10 ^ j := Int.pow_pos (by omega); omega
  constructor
  · refine Int.le_ediv_of_mul_le (by omega) ?_
    have h2 := Int.mul_nonneg (show (0 : Int) ≤ 9223372036854775808 by omega) (show (0 : Int) ≤ 10 ^ j - 1 by omega)
    rw [Int.mul_sub] at h2
    omega
  · by_cases h0 : 0 ≤ n
    · have := Int.ediv_le_self (10 ^ j) h0; omega
    · have : n / 10 ^ j ≤ 0 := by
        have h3 := Int.ediv_neg_of_neg_of_pos (a := n) (b := 10 ^ j) (by omega) (by omega)
        omega
      omega

set_option maxHeartbeats 4000000 in
theorem specWholeV (v : V) (A : Option Addr) (cap : Nat) (w : World) (hf : v.fits) (hw : v.weight ≤ 1048576) (hat : Vs.at_ w 0 w.heap.size v.kids A) :
    Calls Tryz.prog 47 #[v.agg A cap] w fun e w' => e = .returned (.tuple #[.int .i64 (wholeN v), .bool (wholeB v)]) ∧ Below w.heap.size w w' := by
  have HA := Lib.hid hat
  have hf3 := (V.fits_eq v).1 hf
  have hn := hf3.2.2.2.2.1
  have he := hf3.2.2.2.2.2
  unfold inI at hn he
  clear hat hf hf3
  unfold V.agg
  go_enter Tryz.func47, Tryz.ntmps47
  go_wp2_with fail
  have b0 : Below w.heap.size w (w.alloc (.cells #[.int .i64 v.k, .int .i64 v.n, .int .i64 v.e, .string v.s, .slice A v.kids.length cap] 43)) := (Below.refl _ w).alloc (Nat.le_refl _) _
  refine (specIs v A cap _ hw (Vs.at_more (Nat.le_refl _) b0.size _ _ (Vs.at_below HA.out b0 (Nat.le_refl _)))).mono ?_
  rintro e w1 ⟨rfl, hb1⟩
  obtain ⟨p0, p1, p2, p3, p4⟩ := ((Blk.new w 43 #[.int .i64 v.k, .int .i64 v.n, .int .i64 v.e, .string v.s, .slice A v.kids.length cap]).below hb1 (by simp)).five
  have b1 : Below w.heap.size w w1 := b0.trans (hb1.mono b0.size)
  clear b0 hb1
  by_cases hnum : numOk v
  · rw [show decide (numOk v) = true from decide_eq_true hnum]
    by_cases hpos : 0 < v.e
    · have q : decide (0 < v.e) = true := decide_eq_true hpos
      have HR := Lib.hid (whole_no (v := v) (fun h => h.2 hpos))
      clear hnum
      go_wp2_with fail
      go_ret2
      exact ⟨tup_ib HR.out.2.symm HR.out.1.symm, b1⟩
    · have q : decide (0 < v.e) = false := decide_eq_false hpos
      have HR := Lib.hid (whole_yes (v := v) ⟨hnum, hpos⟩)
      have hle := okV_leaf hnum
      have hlow : -20 ≤ v.e := by
        rcases hnum.1 with h | h
        · have := hle.2.2.1 h; omega
        · exact (hle.2.2.2 h).1
      obtain ⟨K, hK⟩ : ∃ K : Nat, (-v.e).toNat = K := ⟨_, rfl⟩
      have hK1 : v.e ≤ -(K : Int) := by omega
      have hK2 : -(K : Int) ≤ v.e := by omega
      have hK20 : K ≤ 20 := by omega
      rw [hK] at HR
      have HK := Lib.hid hK
      clear hnum hle hK
      go_wp2_with fail
      go_loop [4, 5] (fun z y => ∃ j : Nat, j ≤ K ∧ z = .int .i64 (v.n / 10 ^ j) ∧ y = .int .i64 (v.e + j)) (fun _ y => (-(intOf y)).toNat)
      case atStart => exact ⟨0, Nat.zero_le _, by simp, by simp⟩
      case round =>
        obtain ⟨j, hj, rfl, rfl⟩ := hrel
        by_cases hlt : j < K
        · obtain ⟨x, hx⟩ : ∃ x, v.n / 10 ^ j = x := ⟨_, rfl⟩
          have hxr := pow_div_small hn j
          have hst := ten_div v.n j
          have hfl := floor_ten x
          rw [hx] at hxr hst ⊢
          have HST := Lib.hid hst
          have hmr := Int.tmod_add_mul_tdiv x 10
          have hq1 : -9223372036854775808 < Int.tdiv x 10 ∧ Int.tdiv x 10 ≤ 9223372036854775807 := by omega
          clear hx hst hmr
          have qe : decide (v.e + (j : Int) < 0) = true := decide_eq_true (by omega)
          by_cases hneg : Int.tmod x 10 < 0
          · have qn : decide (Int.tmod x 10 < 0) = true := decide_eq_true hneg
            have HF := Lib.hid (hfl.1 hneg)
            clear hfl hneg
            go_wp2_with fail
            go_round
            case rel => exact ⟨j + 1, by omega, congrArg (Value.int .i64) (HF.out.trans HST.out), by go_num⟩
            case measure => simp [intOf]; omega
          · have qn : decide (Int.tmod x 10 < 0) = false := decide_eq_false hneg
            have HF := Lib.hid (hfl.2 hneg)
            clear hfl hneg
            go_wp2_with fail
            go_round
            case rel => exact ⟨j + 1, by omega, congrArg (Value.int .i64) (HF.out.trans HST.out), by go_num⟩
            case measure => simp [intOf]; omega
        · obtain rfl : j = K := by omega
          have qe : decide (v.e + (j : Int) < 0) = false := decide_eq_false (by omega)
          go_wp2_with fail
          go_ret2
          exact ⟨tup_ib HR.out.2.symm HR.out.1.symm, b1⟩
  · rw [show decide (numOk v) = false from decide_eq_false hnum]
    have HR := Lib.hid (whole_no (v := v) (fun h => hnum h.1))
    clear hnum
    go_wp2_with fail
    go_ret2
    exact ⟨tup_ib HR.out.2.symm HR.out.1.symm, b1⟩
end Go.Proofs.YtbfddabljkoapaaGreatDoor

/-
  The program's tests of a value: a decimal number, a value but for its kids.
-/
namespace Go.Proofs.YtbfddabljkoapaaGreatDoor
open Go.RowKit
set_option linter.unusedVariables false
set_option maxRecDepth 100000

theorem tens_stepJ (n : Int) (k : Nat) (h : inR (n * 10)) : tens n (k + 1) = tens (n * 10) k := by
  conv => lhs; unfold tens
  rw [if_pos h]
theorem tens_stopJ (n : Int) (k : Nat) (h : ¬ inR (n * 10)) : tens n (k + 1) = none := by
  unfold tens
  rw [if_neg h]
theorem tup2f {a a' : Int} {b b' : Bool} (h1 : a = a') (h2 : b = b') : Ending.returned (.tuple #[.int .i64 a, .bool b]) = Ending.returned (.tuple #[.int .i64 a', .bool b']) := by rw [h1, h2]

set_option maxHeartbeats 1000000 in
theorem implFits (n : Int) (m : Nat) (w : World) (hn : inR n) (hm2 : m ≤ 1020) :
    Calls Tryz.prog 72 #[.int .i64 n, .int .i64 (m : Int)] w fun e w' => e = .returned (.tuple #[.int .i64 ((tens n m).getD 0), .bool (tens n m).isSome]) ∧ w = w' := by
  go_enter Tryz.func72, Tryz.ntmps72
  go_wp2_with fail
  go_loop [0, 1] (fun z i => ∃ (j : Nat) (x : Int), j ≤ m ∧ i = .int .i64 j ∧ z = .int .i64 x ∧ inR x ∧ tens n m = tens x j) (fun _ i => (intOf i).toNat)
  case atStart => exact ⟨m, n, by omega, rfl, rfl, hn, rfl⟩
  case round =>
    obtain ⟨j, x, hj, rfl, rfl, hx, ht⟩ := hrel
    have hr := hx
    unfold inR at hr
    by_cases hj0 : j = 0
    · subst hj0
      have HT : Hid (tens n m = some x) := Lib.hid ht
      clear ht hx
      go_wp2_with fail
      go_ret2
      exact ⟨tup2f (by rw [HT.out]; rfl) (by rw [HT.out]; rfl), rfl⟩
    by_cases hx0 : x = 0
    · subst hx0
      have HT : Hid (tens n m = some 0) := Lib.hid (ht.trans (tens_zero _))
      have hjp : 0 < j := by omega
      clear ht hx hj0
      go_wp2_with fail
      go_ret2
      exact ⟨tup2f (by rw [HT.out]; rfl) (by rw [HT.out]; rfl), rfl⟩
    · have hj1 : 0 < j := by omega
      have hx1 : (x != 0) = true := by simp; omega
      obtain ⟨k, rfl⟩ : ∃ k, j = k + 1 := ⟨j - 1, by omega⟩
      clear hj0 hx0
      by_cases h10 : inR (x * 10)
      · have HT := Lib.hid (ht.trans (tens_stepJ x k h10))
        have H10 := Lib.hid h10
        have hin := h10
        unfold inR at hin
        have c1 : decide (x > 922337203685477580) = false := decide_eq_false (by omega)
        have c2 : decide (x < -922337203685477580) = false := decide_eq_false (by omega)
        clear ht hx h10
        go_wp2_with fail
        go_round
        case rel => exact ⟨k, x * 10, by omega, by go_num, by go_num, H10.out, HT.out⟩
        case measure => simp [intOf]
      · have HT := Lib.hid (ht.trans (tens_stopJ x k h10))
        have hout : 922337203685477580 < x ∨ x < -922337203685477580 := by unfold inR at h10; omega
        rcases (show decide ((922337203685477580 : Int) < x) = true ∨ (decide ((922337203685477580 : Int) < x) = false ∧ decide (x < -922337203685477580) = true) by
          by_cases h : (922337203685477580 : Int) < x
          · left; exact decide_eq_true h
          · right; exact ⟨decide_eq_false h, decide_eq_true (by omega)⟩) with hc | hc
        all_goals
          clear ht hx h10 hout
          go_wp2_with fail
          go_ret2
          exact ⟨tup2f (by rw [HT.out]; rfl) (by rw [HT.out]; rfl), rfl⟩

theorem implFitsI (n e : Int) (w : World) (hn : inR n) (h0 : 0 < e) (hm2 : e ≤ 1020) :
    Calls Tryz.prog 72 #[.int .i64 n, .int .i64 e] w fun r w' => r = .returned (.tuple #[.int .i64 ((tens n e.toNat).getD 0), .bool (tens n e.toNat).isSome]) ∧ w = w' := by
  obtain ⟨m, rfl⟩ := Int.eq_ofNat_of_zero_le (show 0 ≤ e by omega)
  exact implFits n m w hn (by omega)
theorem decOk_false {n e : Int} (h : ¬ decOk n e) : false = decide (decOk n e) := (decide_eq_false h).symm
theorem decOk_neg {n e : Int} (h1 : -20 ≤ e) (h2 : e ≤ 20) (h3 : ¬ e = 0) (h4 : -999999999999999999 ≤ n) (h5 : n ≤ 999999999999999999) (h6 : (n.tmod 10 == 0) = false) (h7 : e ≤ 0) : true = decide (decOk n e) :=
  (decide_eq_true ⟨h1, h2, h3, h4, h5, by simpa using h6, fun h => by omega⟩).symm
theorem decOk_pos {n e : Int} (h1 : -20 ≤ e) (h2 : e ≤ 20) (h3 : ¬ e = 0) (h4 : -999999999999999999 ≤ n) (h5 : n ≤ 999999999999999999) (h6 : (n.tmod 10 == 0) = false) (h7 : 0 < e) : (tens n e.toNat).isNone = decide (decOk n e) := by
  rw [Bool.eq_iff_iff, decide_eq_true_iff]
  have h6' : Int.tmod n 10 ≠ 0 := by simpa using h6
  unfold decOk
  cases ht : tens n e.toNat with
  | none => simp [*]
  | some x => simp [*]

set_option maxHeartbeats 4000000 in
theorem implIsDec (v : V) (A : Option Addr) (cap : Nat) (w : World) :
    Calls Tryz.prog 73 #[v.agg A cap] w fun e w' => e = .returned (.bool (decide (decOk v.n v.e))) ∧ Below w.heap.size w w' := by
  unfold V.agg
  go_enter Tryz.func73, Tryz.ntmps73
  go_wp2_with (first | (go_at_call 56; go_in) | (go_at_call 72; refine (implFitsI v.n v.e _ (by unfold inR; omega) (by omega) (by omega)).mono ?_; rintro r w1 ⟨rfl, rfl⟩))
  all_goals go_ret
  all_goals refine ⟨ret_bool ?_, (Below.refl _ _).alloc (Nat.le_refl _) _⟩
  all_goals first
    | (refine decOk_false (fun h => ?_); obtain ⟨q1, q2, q3, q4, q5, q6, q7⟩ := h; first | omega | (simp_all; done))
    | exact decOk_neg (by omega) (by omega) (by omega) (by omega) (by omega) (by simp_all) (by omega)
    | exact decOk_pos (by omega) (by omega) (by omega) (by omega) (by omega) (by simp_all) (by omega)
end Go.Proofs.YtbfddabljkoapaaGreatDoor

/-
  The library's two tables of UTF-8.
-/
namespace Go.Proofs.YtbfddabljkoapaaGreatDoor
open Go.RowKit

/-- The library's tables. -/
def Tabs (w : World) : Prop := Lib.Utf8Tabs 0 1 w
theorem Tabs.below {w w' : World} (h : Tabs w) (hb : Below w.heap.size w w') : Tabs w' := Utf8Tabs_below h hb
end Go.Proofs.YtbfddabljkoapaaGreatDoor

/-
  TextOk of the program.
-/
namespace Go.Proofs.YtbfddabljkoapaaGreatDoor
open Go.RowKit
set_option linter.unusedVariables false

set_option maxHeartbeats 1000000 in
theorem implTextOk (s : ByteArray) (w : World) (hs : s.size ≤ 1048576) (hT : Tabs w) :
    Calls Tryz.prog 29 #[.string s] w fun e w' => e = .returned (.bool (textOk s)) ∧ Below w.heap.size w w' := by
  have HV := Lib.hid (valid_textOk s)
  go_enter Tryz.func29, Tryz.ntmps29
  go_wp2_with fail
  refine (Tryz.utf8_ValidString_v s w (by omega) hT).mono ?_
  rintro e w1 ⟨rfl, hb1⟩
  rw [HV.out]
  go_wp2_with fail
  go_ret
  exact ⟨rfl, hb1⟩
end Go.Proofs.YtbfddabljkoapaaGreatDoor

/-
  The program's test of a value but for its kids.
-/
namespace Go.Proofs.YtbfddabljkoapaaGreatDoor
open Go.RowKit
set_option linter.unusedVariables false
set_option maxRecDepth 100000

theorem sz_empty (s : ByteArray) : s.size = 0 ↔ s.toList = [] := by
  rw [ByteArray.toList_eq]
  constructor
  · intro h
    have : s.data.toList.length = 0 := by simpa using h
    exact List.length_eq_zero_iff.1 this
  · intro h
    have : s.data.toList.length = 0 := by rw [h]; rfl
    simpa using this
theorem szz (n : Nat) : n ≤ 2000 ↔ (n : Int) ≤ 2000 := by omega
theorem node_a {v : V} (h : v.k = 0 ∨ v.k = 1 ∨ v.k = 2 ∨ v.k = 7 ∨ v.k = 8) : nodeOk v ↔ v.n = 0 ∧ v.e = 0 ∧ v.s.toList = [] := by
  unfold nodeOk
  rw [if_pos h, sz_empty]
theorem node_3 {v : V} (h : v.k = 3) : nodeOk v ↔ v.e = 0 ∧ v.s.toList = [] := by
  unfold nodeOk
  rw [if_neg (by omega), if_pos h, sz_empty]
theorem node_4 {v : V} (h : v.k = 4) : nodeOk v ↔ decOk v.n v.e ∧ v.s.toList = [] := by
  unfold nodeOk
  rw [if_neg (by omega), if_neg (by omega), if_pos h, sz_empty]
theorem node_5 {v : V} (h : v.k = 5) : nodeOk v ↔ v.n = 0 ∧ v.e = 0 ∧ textOk v.s = true ∧ (v.s.size : Int) ≤ 2000 := by
  unfold nodeOk
  rw [if_neg (by omega), if_neg (by omega), if_neg (by omega), if_pos h, szz]
theorem node_6 {v : V} (h : v.k = 6) : nodeOk v ↔ v.n = 0 ∧ v.e = 0 ∧ (v.s.size : Int) ≤ 2000 := by
  unfold nodeOk
  rw [if_neg (by omega), if_neg (by omega), if_neg (by omega), if_neg (by omega), if_pos h, szz]
theorem node_9 {v : V} (h : v.k = 9) : nodeOk v ↔ 0 ≤ v.n ∧ v.n ≤ 1000000 ∧ v.e = 0 ∧ v.s.toList = [] := by
  unfold nodeOk
  rw [if_neg (by omega), if_neg (by omega), if_neg (by omega), if_neg (by omega), if_neg (by omega), if_pos h, sz_empty]
theorem node_else {v : V} (h : v.k < 0 ∨ 9 < v.k) : ¬ nodeOk v := by
  unfold nodeOk
  rw [if_neg (by omega), if_neg (by omega), if_neg (by omega), if_neg (by omega), if_neg (by omega), if_neg (by omega)]
  exact id
theorem bl_2a {w : World} {o o' : Obj} : Below w.heap.size w ((w.alloc o).alloc o') := ((Below.refl _ w).alloc (Nat.le_refl _) o).alloc (by simp) o'
theorem blk_first {w w1 : World} {o' : Obj} {t : TypeId} {cs : Array Value} (h : Below ((w.alloc (.cells cs t)).alloc o').heap.size ((w.alloc (.cells cs t)).alloc o') w1) : Blk w1 w.heap.size t cs :=
  ((Blk.new w t cs).alloc o').below h (by simp; omega)
theorem blk_second {w w1 : World} {o : Obj} {t : TypeId} {cs : Array Value} (h : Below ((w.alloc o).alloc (.cells cs t)).heap.size ((w.alloc o).alloc (.cells cs t)) w1) : Blk w1 (w.heap.size + 1) t cs := by
  have := (Blk.new (w.alloc o) t cs).below h (by simp)
  simpa using this
theorem bl_2b {w w1 : World} {o o' : Obj} (h : Below ((w.alloc o).alloc o').heap.size ((w.alloc o).alloc o') w1) : Below w.heap.size w w1 := bl_2a.trans (h.mono (by simp; omega))

set_option maxHeartbeats 4000000 in
theorem implNode_0 (v : V) (A : Option Addr) (cap : Nat) (w : World) (hk : v.k = 0) :
    Calls Tryz.prog 129 #[v.agg A cap] w fun e w' => e = .returned (.bool (decide (nodeOk v))) ∧ Below w.heap.size w w' := by
  have HO := Lib.hid (node_a (.inl hk))
  unfold V.agg
  go_enter Tryz.func129, Tryz.ntmps129
  go_wp2_with fail
  all_goals go_ret
  all_goals refine ⟨ret_bool ?_, bl_2a⟩
  all_goals first
    | (simp [HO.out, *]; done)
    | (simp [HO.out, *]; intros; omega)
    | (simp [HO.out, *]; cases v.s.toList <;> rfl)
    | (simp_all [HO.out]; done)
    | (simp_all [HO.out]; intros; omega)
    | (simp_all [HO.out]; cases v.s.toList <;> rfl)

set_option maxHeartbeats 4000000 in
theorem implNode_1 (v : V) (A : Option Addr) (cap : Nat) (w : World) (hk : v.k = 1) :
    Calls Tryz.prog 129 #[v.agg A cap] w fun e w' => e = .returned (.bool (decide (nodeOk v))) ∧ Below w.heap.size w w' := by
  have HO := Lib.hid (node_a (.inr (.inl hk)))
  unfold V.agg
  go_enter Tryz.func129, Tryz.ntmps129
  go_wp2_with fail
  all_goals go_ret
  all_goals refine ⟨ret_bool ?_, bl_2a⟩
  all_goals first
    | (simp [HO.out, *]; done)
    | (simp [HO.out, *]; intros; omega)
    | (simp [HO.out, *]; cases v.s.toList <;> rfl)
    | (simp_all [HO.out]; done)
    | (simp_all [HO.out]; intros; omega)
    | (simp_all [HO.out]; cases v.s.toList <;> rfl)

set_option maxHeartbeats 4000000 in
theorem implNode_2 (v : V) (A : Option Addr) (cap : Nat) (w : World) (hk : v.k = 2) :
    Calls Tryz.prog 129 #[v.agg A cap] w fun e w' => e = .returned (.bool (decide (nodeOk v))) ∧ Below w.heap.size w w' := by
  have HO := Lib.hid (node_a (.inr (.inr (.inl hk))))
  unfold V.agg
  go_enter Tryz.func129, Tryz.ntmps129
  go_wp2_with fail
  all_goals go_ret
  all_goals refine ⟨ret_bool ?_, bl_2a⟩
  all_goals first
    | (simp [HO.out, *]; done)
    | (simp [HO.out, *]; intros; omega)
    | (simp [HO.out, *]; cases v.s.toList <;> rfl)
    | (simp_all [HO.out]; done)
    | (simp_all [HO.out]; intros; omega)
    | (simp_all [HO.out]; cases v.s.toList <;> rfl)

set_option maxHeartbeats 4000000 in
theorem implNode_7 (v : V) (A : Option Addr) (cap : Nat) (w : World) (hk : v.k = 7) :
    Calls Tryz.prog 129 #[v.agg A cap] w fun e w' => e = .returned (.bool (decide (nodeOk v))) ∧ Below w.heap.size w w' := by
  have HO := Lib.hid (node_a (.inr (.inr (.inr (.inl hk)))))
  unfold V.agg
  go_enter Tryz.func129, Tryz.ntmps129
  go_wp2_with fail
  all_goals go_ret
  all_goals refine ⟨ret_bool ?_, bl_2a⟩
  all_goals first
    | (simp [HO.out, *]; done)
    | (simp [HO.out, *]; intros; omega)
    | (simp [HO.out, *]; cases v.s.toList <;> rfl)
    | (simp_all [HO.out]; done)
    | (simp_all [HO.out]; intros; omega)
    | (simp_all [HO.out]; cases v.s.toList <;> rfl)

set_option maxHeartbeats 4000000 in
theorem implNode_8 (v : V) (A : Option Addr) (cap : Nat) (w : World) (hk : v.k = 8) :
    Calls Tryz.prog 129 #[v.agg A cap] w fun e w' => e = .returned (.bool (decide (nodeOk v))) ∧ Below w.heap.size w w' := by
  have HO := Lib.hid (node_a (.inr (.inr (.inr (.inr hk)))))
  unfold V.agg
  go_enter Tryz.func129, Tryz.ntmps129
  go_wp2_with fail
  all_goals go_ret
  all_goals refine ⟨ret_bool ?_, bl_2a⟩
  all_goals first
    | (simp [HO.out, *]; done)
    | (simp [HO.out, *]; intros; omega)
    | (simp [HO.out, *]; cases v.s.toList <;> rfl)
    | (simp_all [HO.out]; done)
    | (simp_all [HO.out]; intros; omega)
    | (simp_all [HO.out]; cases v.s.toList <;> rfl)

set_option maxHeartbeats 4000000 in
theorem implNode_3 (v : V) (A : Option Addr) (cap : Nat) (w : World) (hk : v.k = 3) :
    Calls Tryz.prog 129 #[v.agg A cap] w fun e w' => e = .returned (.bool (decide (nodeOk v))) ∧ Below w.heap.size w w' := by
  have HO := Lib.hid (node_3 hk)
  unfold V.agg
  go_enter Tryz.func129, Tryz.ntmps129
  go_wp2_with fail
  all_goals go_ret
  all_goals refine ⟨ret_bool ?_, bl_2a⟩
  all_goals first
    | (simp [HO.out, *]; done)
    | (simp [HO.out, *]; intros; omega)
    | (simp [HO.out, *]; cases v.s.toList <;> rfl)
    | (simp_all [HO.out]; done)
    | (simp_all [HO.out]; intros; omega)
    | (simp_all [HO.out]; cases v.s.toList <;> rfl)

set_option maxHeartbeats 4000000 in
theorem implNode_6 (v : V) (A : Option Addr) (cap : Nat) (w : World) (hk : v.k = 6) :
    Calls Tryz.prog 129 #[v.agg A cap] w fun e w' => e = .returned (.bool (decide (nodeOk v))) ∧ Below w.heap.size w w' := by
  have HO := Lib.hid (node_6 hk)
  unfold V.agg
  go_enter Tryz.func129, Tryz.ntmps129
  go_wp2_with fail
  all_goals go_ret
  all_goals refine ⟨ret_bool ?_, bl_2a⟩
  all_goals first
    | (simp [HO.out, *]; done)
    | (simp [HO.out, *]; intros; omega)
    | (simp [HO.out, *]; cases v.s.toList <;> rfl)
    | (simp_all [HO.out]; done)
    | (simp_all [HO.out]; intros; omega)
    | (simp_all [HO.out]; cases v.s.toList <;> rfl)

set_option maxHeartbeats 4000000 in
theorem implNode_9 (v : V) (A : Option Addr) (cap : Nat) (w : World) (hk : v.k = 9) :
    Calls Tryz.prog 129 #[v.agg A cap] w fun e w' => e = .returned (.bool (decide (nodeOk v))) ∧ Below w.heap.size w w' := by
  have HO := Lib.hid (node_9 hk)
  unfold V.agg
  go_enter Tryz.func129, Tryz.ntmps129
  go_wp2_with (go_at_call 56; go_in)
  all_goals go_ret
  all_goals refine ⟨ret_bool ?_, bl_2a⟩
  all_goals first
    | (simp [HO.out, *]; done)
    | (simp [HO.out, *]; intros; omega)
    | (simp [HO.out, *]; cases v.s.toList <;> rfl)
    | (simp_all [HO.out]; done)
    | (simp_all [HO.out]; intros; omega)
    | (simp_all [HO.out]; cases v.s.toList <;> rfl)

set_option maxHeartbeats 4000000 in
theorem implNode_5 (v : V) (A : Option Addr) (cap : Nat) (w : World) (hk : v.k = 5) (hs : v.s.size ≤ 1048576) (hT : Tabs w) :
    Calls Tryz.prog 129 #[v.agg A cap] w fun e w' => e = .returned (.bool (decide (nodeOk v))) ∧ Below w.heap.size w w' := by
  have HO := Lib.hid (node_5 hk)
  unfold V.agg
  go_enter Tryz.func129, Tryz.ntmps129
  go_wp2_with (go_at_call 29; refine (implTextOk v.s _ hs (hT.below bl_2a)).mono ?_; rintro e w1 ⟨rfl, hb1⟩; obtain ⟨p0, p1, p2, p3, p4⟩ := (blk_first hb1).five; obtain ⟨q0, q1, q2, q3, q4⟩ := (blk_second hb1).five; have f1 := (blk_second hb1).frozen 1; have f2 := (blk_second hb1).frozen 2; have f3 := (blk_second hb1).frozen 3)
  all_goals go_ret
  all_goals refine ⟨ret_bool ?_, by first | exact bl_2a | exact bl_2b hb1 | exact (bl_2b hb1).setCell (p := ⟨w.heap.size + 1, 3, none⟩) (by simp) _⟩
  all_goals first
    | (simp [HO.out, *]; done)
    | (simp [HO.out, *]; intros; omega)
    | (simp_all [HO.out]; done)
    | (simp_all [HO.out]; intros; omega)
    | (simp_all [HO.out]; cases h : textOk v.s <;> simp_all <;> omega)
end Go.Proofs.YtbfddabljkoapaaGreatDoor

/-
  The program's test of a decimal number but for its kids.
-/
namespace Go.Proofs.YtbfddabljkoapaaGreatDoor
open Go.RowKit
set_option linter.unusedVariables false
set_option maxRecDepth 100000

set_option maxHeartbeats 4000000 in
theorem implNode_4 (v : V) (A : Option Addr) (cap : Nat) (w : World) (hk : v.k = 4) :
    Calls Tryz.prog 129 #[v.agg A cap] w fun e w' => e = .returned (.bool (decide (nodeOk v))) ∧ Below w.heap.size w w' := by
  have HO := Lib.hid (node_4 hk)
  unfold V.agg
  go_enter Tryz.func129, Tryz.ntmps129
  go_wp2_with fail
  have hI := fun w0 => implIsDec v A cap w0
  unfold V.agg at hI
  rw [hk] at hI
  refine (hI _).mono ?_
  rintro e w1 ⟨rfl, hb1⟩
  obtain ⟨p0, p1, p2, p3, p4⟩ := (blk_first hb1).five
  obtain ⟨q0, q1, q2, q3, q4⟩ := (blk_second hb1).five
  have f1 := (blk_second hb1).frozen 1
  have f2 := (blk_second hb1).frozen 2
  have f3 := (blk_second hb1).frozen 3
  have HBB := Lib.hid (bl_2b hb1)
  clear hb1
  by_cases hd : decOk v.n v.e
  · rw [show decide (decOk v.n v.e) = true from decide_eq_true hd]
    have HD := Lib.hid hd
    clear hd
    go_wp2_with fail
    go_region
    all_goals go_wp2_with fail
    all_goals go_ret
    all_goals refine ⟨ret_bool (by simp only [HO.out, HD.out, true_and]; cases v.s.toList <;> simp), ?_⟩
    all_goals first
      | exact ((HBB.out.setCell (p := ⟨w.heap.size + 1, 1, none⟩) (by simp) _).setCell (p := ⟨w.heap.size + 1, 2, none⟩) (by simp) _).drew
      | exact ((HBB.out.drew.setCell (p := ⟨w.heap.size + 1, 1, none⟩) (by simp) _).setCell (p := ⟨w.heap.size + 1, 2, none⟩) (by simp) _)
      | exact ((HBB.out.setCell (p := ⟨w.heap.size + 1, 2, none⟩) (by simp) _).setCell (p := ⟨w.heap.size + 1, 1, none⟩) (by simp) _).drew
  · rw [show decide (decOk v.n v.e) = false from decide_eq_false hd]
    have HN : Hid (¬ nodeOk v) := Lib.hid (fun h => hd (HO.out.1 h).1)
    clear hd
    go_wp2_with fail
    go_ret
    exact ⟨ret_bool (decide_eq_false HN.out).symm, HBB.out⟩
end Go.Proofs.YtbfddabljkoapaaGreatDoor

/-
  The program's isNode, whole; isKey.
-/
namespace Go.Proofs.YtbfddabljkoapaaGreatDoor
open Go.RowKit
set_option linter.unusedVariables false
set_option maxRecDepth 100000

set_option maxHeartbeats 2000000 in
theorem implNode_else (v : V) (A : Option Addr) (cap : Nat) (w : World) (hk : v.k < 0 ∨ 9 < v.k) :
    Calls Tryz.prog 129 #[v.agg A cap] w fun e w' => e = .returned (.bool (decide (nodeOk v))) ∧ Below w.heap.size w w' := by
  have HO := Lib.hid (node_else hk)
  have q0 : (v.k == 0) = false := by rw [beq_eq_false_iff_ne]; omega
  have q1 : (v.k == 1) = false := by rw [beq_eq_false_iff_ne]; omega
  have q2 : (v.k == 2) = false := by rw [beq_eq_false_iff_ne]; omega
  have q3 : (v.k == 3) = false := by rw [beq_eq_false_iff_ne]; omega
  have q4 : (v.k == 4) = false := by rw [beq_eq_false_iff_ne]; omega
  have q5 : (v.k == 5) = false := by rw [beq_eq_false_iff_ne]; omega
  have q6 : (v.k == 6) = false := by rw [beq_eq_false_iff_ne]; omega
  have q7 : (v.k == 7) = false := by rw [beq_eq_false_iff_ne]; omega
  have q8 : (v.k == 8) = false := by rw [beq_eq_false_iff_ne]; omega
  have q9 : (v.k == 9) = false := by rw [beq_eq_false_iff_ne]; omega
  clear hk
  unfold V.agg
  go_enter Tryz.func129, Tryz.ntmps129
  go_wp2_with fail
  go_ret
  exact ⟨ret_bool (decide_eq_false HO.out).symm, bl_2a⟩
theorem implNode (v : V) (A : Option Addr) (cap : Nat) (w : World) (hs : v.s.size ≤ 1048576) (hT : Tabs w) :
    Calls Tryz.prog 129 #[v.agg A cap] w fun e w' => e = .returned (.bool (decide (nodeOk v))) ∧ Below w.heap.size w w' := by
  rcases (show v.k = 0 ∨ v.k = 1 ∨ v.k = 2 ∨ v.k = 3 ∨ v.k = 4 ∨ v.k = 5 ∨ v.k = 6 ∨ v.k = 7 ∨ v.k = 8 ∨ v.k = 9 ∨ (v.k < 0 ∨ 9 < v.k) by omega) with h | h | h | h | h | h | h | h | h | h | h
  · exact implNode_0 v A cap w h
  · exact implNode_1 v A cap w h
  · exact implNode_2 v A cap w h
  · exact implNode_3 v A cap w h
  · exact implNode_4 v A cap w h
  · exact implNode_5 v A cap w h hs hT
  · exact implNode_6 v A cap w h
  · exact implNode_7 v A cap w h
  · exact implNode_8 v A cap w h
  · exact implNode_9 v A cap w h
  · exact implNode_else v A cap w h
set_option maxHeartbeats 1000000 in
theorem implIsKey (v : V) (A : Option Addr) (cap : Nat) (w : World) :
    Calls Tryz.prog 165 #[v.agg A cap] w fun e w' => e = .returned (.bool (isKeyB v)) ∧ Below w.heap.size w w' := by
  unfold V.agg
  go_enter Tryz.func165, Tryz.ntmps165
  go_wp2_with fail
  all_goals go_ret
  all_goals exact ⟨ret_bool (by unfold isKeyB; first | (simp [*]; done) | (rw [Bool.eq_iff_iff]; simp [*])), (Below.refl _ _).alloc (Nat.le_refl _) _⟩
end Go.Proofs.YtbfddabljkoapaaGreatDoor

/-
  The order of two values, plainly.
-/
namespace Go.Proofs.YtbfddabljkoapaaGreatDoor
open Go.RowKit
set_option linter.unusedVariables false
set_option maxRecDepth 100000
set_option linter.unusedSimpArgs false

theorem two_new (w : World) (t u : TypeId) (cs ds : Array Value) : ∃ w2, w2 = (w.alloc (.cells cs t)).alloc (.cells ds u) ∧ Blk w2 w.heap.size t cs ∧ Blk w2 (w.heap.size + 1) u ds ∧ Below w.heap.size w w2 ∧ w2.heap.size = w.heap.size + 2 :=
  ⟨_, rfl, (Blk.new w t cs).alloc _, by simpa using Blk.new (w.alloc (.cells cs t)) u ds, ((Below.refl _ w).alloc (Nat.le_refl _) _).alloc (by simp) _, by simp⟩
/-- What is compared ahead of the kids. -/
def ordAt (a b : V) : Nat → Int
  | 0 => lessI a.k b.k
  | 1 => lessI a.n b.n
  | 2 => lessI a.e b.e
  | 3 => lessT a.s b.s
  | _ => lessI a.kids.length b.kids.length
/-- The order of two values but for their kids. -/
def V.ord (a b : V) : Int := orN (ordAt a b) 5
theorem V.ord_len {a b : V} (h : V.ord a b = 0) : a.kids.length = b.kids.length := by
  have h1 := lessI_zero (orN_all _ 5 h 4 (by omega))
  omega
/-- The five numbers that are compared. -/
def ordCells (a b : V) : Array Value := #[.int .i64 (ordAt a b 0), .int .i64 (ordAt a b 1), .int .i64 (ordAt a b 2), .int .i64 (ordAt a b 3), .int .i64 (ordAt a b 4)]
theorem ordCells_at {w : World} {g : Nat} {t : TypeId} {a b : V} (h : Blk w g t (ordCells a b)) (j : Nat) (hj : j < 5) : w.cell? ⟨g, j, none⟩ = some (.int .i64 (ordAt a b j)) := by
  rw [h.cell j]
  unfold ordCells
  rcases (show j = 0 ∨ j = 1 ∨ j = 2 ∨ j = 3 ∨ j = 4 by omega) with rfl | rfl | rfl | rfl | rfl <;> rfl

mutual
/-- The order of two values. -/
def V.cmp : V → V → Int
  | .mk k n e s ks, b => if V.ord (.mk k n e s ks) b = 0 then Vs.cmp ks b.kids else V.ord (.mk k n e s ks) b
def Vs.cmp : List V → List V → Int
  | [], _ => 0
  | a :: r, l => match l with
    | [] => 0
    | b :: t => if V.cmp a b = 0 then Vs.cmp r t else V.cmp a b
end
theorem V.cmp_zero {a b : V} (h : V.ord a b = 0) : V.cmp a b = Vs.cmp a.kids b.kids := by
  cases a
  unfold V.cmp
  rw [if_pos h]
  rfl
theorem V.cmp_ord {a b : V} (h : V.ord a b ≠ 0) : V.cmp a b = V.ord a b := by
  cases a
  unfold V.cmp
  rw [if_neg h]
theorem Vs.cmp_cons (a b : V) (r t : List V) : Vs.cmp (a :: r) (b :: t) = if V.cmp a b = 0 then Vs.cmp r t else V.cmp a b := by simp only [Vs.cmp]
theorem Vs.cmp_nil (l : List V) : Vs.cmp l [] = 0 := by cases l <;> simp only [Vs.cmp]
/-- Lists of which the first j values are alike. -/
theorem Vs.cmp_first : ∀ (l m : List V) (j : Nat) (hl : j < l.length) (hm : j < m.length), (∀ i (h1 : i < l.length) (h2 : i < m.length), i < j → V.cmp l[i] m[i] = 0) → V.cmp l[j] m[j] ≠ 0 → Vs.cmp l m = V.cmp l[j] m[j]
  | a :: r, b :: t, 0, hl, hm, h, h0 => by
    rw [Vs.cmp_cons, if_neg (by simpa using h0)]
    rfl
  | a :: r, b :: t, j + 1, hl, hm, h, h0 => by
    rw [Vs.cmp_cons, if_pos (show V.cmp a b = 0 from h 0 (by simp) (by simp) (by omega))]
    exact Vs.cmp_first r t j (by simpa using hl) (by simpa using hm) (fun i h1 h2 hi => h (i + 1) (by simpa using h1) (by simpa using h2) (by omega)) (by simpa using h0)
theorem Vs.cmp_none : ∀ (l m : List V), (∀ i (h1 : i < l.length) (h2 : i < m.length), V.cmp l[i] m[i] = 0) → Vs.cmp l m = 0
  | [], _, _ => by unfold Vs.cmp; rfl
  | a :: r, [], _ => Vs.cmp_nil _
  | a :: r, b :: t, h => by
    rw [Vs.cmp_cons, if_pos (show V.cmp a b = 0 from h 0 (by simp) (by simp))]
    exact Vs.cmp_none r t (fun i h1 h2 => h (i + 1) (by simpa using h1) (by simpa using h2))
/-- Are two values the same? -/
def V.same (a b : V) : Bool := decide (V.cmp a b = 0)
end Go.Proofs.YtbfddabljkoapaaGreatDoor

/-
  The program's Same.
-/
namespace Go.Proofs.YtbfddabljkoapaaGreatDoor
open Go.RowKit
set_option linter.unusedVariables false
set_option maxRecDepth 100000
set_option linter.unusedSimpArgs false

def ImplSameSaid (a : V) : Prop := ∀ (b : V) (A B : Option Addr) (ca cb : Nat) (w : World), a.nodes ≤ 1048577 → b.nodes ≤ 1048577 → Vs.at_ w 0 w.heap.size a.kids A → Vs.at_ w 0 w.heap.size b.kids B →
    Calls Tryz.prog 166 #[a.agg A ca, b.agg B cb] w fun e w' => e = .returned (.bool (V.same a b)) ∧ Below w.heap.size w w'

theorem sameEnters : ∀ (args : Array Value) (w : World), (callFunc 166 args).run Tryz.prog w = .ok (.enter 166 args) w :=
  enters_of Tryz.func166 (by kernel_rfl) rfl

/-- Are two rows the same? -/
def Vs.same (l m : List V) : Bool := decide (l.length = m.length ∧ Vs.cmp l m = 0)

theorem V.ord_iff (a b : V) : V.ord a b = 0 ↔ a.k = b.k ∧ a.n = b.n ∧ a.e = b.e ∧ a.s = b.s ∧ a.kids.length = b.kids.length := by
  constructor
  · intro h
    have h1 := orN_all _ 5 h
    refine ⟨lessI_zero (h1 0 (by omega)), lessI_zero (h1 1 (by omega)), lessI_zero (h1 2 (by omega)), lessT_zero (h1 3 (by omega)), ?_⟩
    have := lessI_zero (h1 4 (by omega))
    omega
  · rintro ⟨h1, h2, h3, h4, h5⟩
    refine orN_zero _ 5 fun i hi => ?_
    rcases (show i = 0 ∨ i = 1 ∨ i = 2 ∨ i = 3 ∨ i = 4 by omega) with rfl | rfl | rfl | rfl | rfl
    · show lessI a.k b.k = 0; rw [h1]; exact lessI_eq _
    · show lessI a.n b.n = 0; rw [h2]; exact lessI_eq _
    · show lessI a.e b.e = 0; rw [h3]; exact lessI_eq _
    · show lessT a.s b.s = 0; rw [h4]; exact lessT_eq _
    · show lessI a.kids.length b.kids.length = 0; rw [h5]; exact lessI_eq _
theorem V.same_no {a b : V} (h : V.ord a b ≠ 0) : V.same a b = false := by
  unfold V.same
  rw [V.cmp_ord h]
  exact decide_eq_false h
theorem V.same_yes {a b : V} (h1 : a.k = b.k) (h2 : a.n = b.n) (h3 : a.e = b.e) (h4 : a.s = b.s) : V.same a b = Vs.same a.kids b.kids := by
  by_cases h : a.kids.length = b.kids.length
  · have h0 : V.ord a b = 0 := (V.ord_iff a b).2 ⟨h1, h2, h3, h4, h⟩
    unfold V.same Vs.same
    rw [V.cmp_zero h0]
    simp [h]
  · rw [V.same_no (fun h0 => h ((V.ord_iff a b).1 h0).2.2.2.2)]
    unfold Vs.same
    simp [h]
theorem text_eq {a b : ByteArray} (h : (a.toList == b.toList) = true) : a = b := by
  have h3 := eq_of_beq h
  rw [ByteArray.toList_eq, ByteArray.toList_eq] at h3
  cases a; cases b
  simp only [ByteArray.mk.injEq]
  exact Array.toList_inj.1 h3

set_option maxHeartbeats 4000000 in
theorem sameFunc (l m : List V) (hk : ∀ i (h : i < l.length), ImplSameSaid l[i]) (A B : Option Addr) (ca cb : Nat) (w : World) (hn : Vs.nodes l ≤ 1048576) (hm : Vs.nodes m ≤ 1048576) (hat : Vs.at_ w 0 w.heap.size l A) (hbt : Vs.at_ w 0 w.heap.size m B) :
    Calls Tryz.prog 190 #[.slice A l.length ca, .slice B m.length cb, .func (Fn.func 166) #[] #[]] w fun e w' => e = .returned (.bool (Vs.same l m)) ∧ Below w.heap.size w w' := by
  have hl : l.length ≤ 1048576 := by have := Vs.len_nodes l; omega
  have hl2 : m.length ≤ 1048576 := by have := Vs.len_nodes m; omega
  have HK := fun (i : Nat) (h : i < l.length) (h2 : i < m.length) (A' B' : Option Addr) (c c' : Nat) (w' : World) (h1 : Vs.at_ w' 0 w'.heap.size (l[i]).kids A') (h2' : Vs.at_ w' 0 w'.heap.size (m[i]).kids B') => hk i h m[i] A' B' c c' w' (by have := Vs.nodes_get i h; omega) (by have := Vs.nodes_get i h2; omega) h1 h2'
  have HC := Lib.hid HK
  clear HK hk
  have HA := Lib.hid hat
  have HB := Lib.hid hbt
  have HS := Lib.hid (Vs.cmp_first l m)
  have HN := Lib.hid (Vs.cmp_none l m)
  have hE := sameEnters
  clear hat hbt
  by_cases hlen : l.length = m.length
  · have HL := Lib.hid hlen
    rw [← hlen]
    clear hlen
    go_enter Tryz.func190, Tryz.ntmps190
    go_wp2_with fail
    go_loopw [17] (fun i wr => ∃ j : Nat, j ≤ l.length ∧ i = .int .i64 j ∧ (∀ k (h1 : k < l.length) (h2 : k < m.length), k < j → V.cmp l[k] m[k] = 0) ∧ Below w.heap.size w wr) (fun i _ => l.length - (intOf i).toNat)
    case atStart => exact ⟨0, Nat.zero_le _, rfl, fun k _ _ hk => by omega, Below.refl _ _⟩
    case round =>
      obtain ⟨j, hj, rfl, hz, hb⟩ := hrel
      have HH := Lib.hid hz
      clear hz
      by_cases hlt : j < l.length
      · have hlt2 : j < m.length := by have := HL.out; omega
        obtain ⟨g, off, A', cap', rfl, g1, g2, g3, ⟨c0, c1, c2, c3, c4⟩, g5⟩ := Vs.at_get j hlt (Vs.at_below HA.out hb (Nat.le_refl _))
        obtain ⟨g', off2, A2', cap2', rfl, g12, g22, g32, ⟨d0, d1, d2, d3, d4⟩, g52⟩ := Vs.at_get j hlt2 (Vs.at_below HB.out hb (Nat.le_refl _))
        have HJ := Lib.hid (HS.out j hlt hlt2 HH.out)
        have hbs := hb.size
        have hg2 : g' < wr.heap.size := by omega
        go_wp2_with fail
        refine (HC.out j hlt hlt2 A' A2' cap' cap2' _ (Vs.at_more (Nat.le_refl _) (by simp; omega) _ _ (Vs.at_alloc (Vs.at_alloc g5 hb.size _) (by simp; omega) _)) (Vs.at_more (Nat.le_refl _) (by simp; omega) _ _ (Vs.at_alloc (Vs.at_alloc g52 hb.size _) (by simp; omega) _))).mono ?_
        rintro e w1 ⟨rfl, hb1⟩
        have hbw : Below w.heap.size w w1 := ((hb.alloc hb.size _).alloc (by simp; omega) _).trans (hb1.mono (by simp; omega))
        clear c0 c1 c2 c3 c4 d0 d1 d2 d3 d4
        by_cases h0 : V.cmp l[j] m[j] = 0
        · have H0 := Lib.hid h0
          rw [show V.same l[j] m[j] = true from decide_eq_true h0]
          clear h0
          go_wp2_with fail
          go_roundw
          case rel => exact ⟨j + 1, by omega, by go_num, fun k h1 h2 hk => by
            by_cases hk2 : k = j
            · subst hk2; exact H0.out
            · exact HH.out k h1 h2 (by omega), hbw⟩
          case measure => simp [intOf]; omega
        · rw [show V.same l[j] m[j] = false from decide_eq_false h0]
          go_wp2_with fail
          go_ret
          exact ⟨ret_bool (by unfold Vs.same; rw [HJ.out h0]; exact (decide_eq_false fun h => h0 h.2).symm), hbw⟩
      · obtain rfl : j = l.length := by omega
        go_wp2_with fail
        go_ret
        exact ⟨ret_bool (by unfold Vs.same; exact (decide_eq_true ⟨HL.out, HN.out fun k h1 h2 => HH.out k h1 h2 h1⟩).symm), hb⟩
  · have HL := Lib.hid hlen
    go_enter Tryz.func190, Tryz.ntmps190
    go_wp2_with fail
    go_ret
    exact ⟨ret_bool (by unfold Vs.same; exact (decide_eq_false fun h => HL.out h.1).symm), Below.refl _ _⟩

set_option maxHeartbeats 4000000 in
theorem implSame_step (a : V) (hk : ∀ i (h : i < a.kids.length), ImplSameSaid a.kids[i]) : ImplSameSaid a := by
  intro b A B ca cb w hn hm hat hbt
  rw [V.nodes_eq] at hn hm
  have HC := Lib.hid (sameFunc a.kids b.kids hk)
  clear hk
  have HA := Lib.hid hat
  have HB := Lib.hid hbt
  clear hat hbt
  unfold V.agg
  have HN : ∀ h : V.ord a b ≠ 0, V.same a b = false := V.same_no
  have HO := Lib.hid (V.ord_iff a b)
  have HNN := Lib.hid HN
  clear HN
  by_cases h1 : (a.k == b.k) = true
  · by_cases h2 : (a.n == b.n) = true
    · by_cases h3 : (a.e == b.e) = true
      · by_cases h4 : (a.s.toList == b.s.toList) = true
        · have HY := Lib.hid (V.same_yes (eq_of_beq h1) (eq_of_beq h2) (eq_of_beq h3) (text_eq h4))
          go_enter Tryz.func166, Tryz.ntmps166
          go_wp2_with fail
          obtain ⟨w2, hw2, Ba, Bb, b1, z2⟩ := two_new w 43 43 #[.int .i64 a.k, .int .i64 a.n, .int .i64 a.e, .string a.s, .slice A a.kids.length ca] #[.int .i64 b.k, .int .i64 b.n, .int .i64 b.e, .string b.s, .slice B b.kids.length cb]
          rw [← hw2]
          clear hw2
          refine (HC.out A B ca cb w2 (by omega) (by omega) (Vs.at_more (Nat.le_refl _) b1.size _ _ (Vs.at_below HA.out b1 (Nat.le_refl _))) (Vs.at_more (Nat.le_refl _) b1.size _ _ (Vs.at_below HB.out b1 (Nat.le_refl _)))).mono ?_
          rintro e w4 ⟨rfl, hb4⟩
          have b6 := b1.trans (hb4.mono b1.size)
          go_wp2_with fail
          go_ret
          exact ⟨ret_bool (by rw [HY.out]), b6⟩
        · have HY := Lib.hid (HNN.out fun h => h4 (by rw [(HO.out.1 h).2.2.2.1]; exact beq_self_eq_true _))
          have h4' : (a.s.toList == b.s.toList) = false := by simpa using h4
          clear h4
          go_enter Tryz.func166, Tryz.ntmps166
          go_wp2_with fail
          go_ret
          exact ⟨ret_bool (by rw [HY.out]), ((Below.refl _ w).alloc (Nat.le_refl _) _).alloc (by simp) _⟩
      · have HY := Lib.hid (HNN.out fun h => h3 (by rw [(HO.out.1 h).2.2.1]; exact beq_self_eq_true _))
        have h3' : (a.e == b.e) = false := by simpa using h3
        clear h3
        go_enter Tryz.func166, Tryz.ntmps166
        go_wp2_with fail
        go_ret
        exact ⟨ret_bool (by rw [HY.out]), ((Below.refl _ w).alloc (Nat.le_refl _) _).alloc (by simp) _⟩
    · have HY := Lib.hid (HNN.out fun h => h2 (by rw [(HO.out.1 h).2.1]; exact beq_self_eq_true _))
      have h2' : (a.n == b.n) = false := by simpa using h2
      clear h2
      go_enter Tryz.func166, Tryz.ntmps166
      go_wp2_with fail
      go_ret
      exact ⟨ret_bool (by rw [HY.out]), ((Below.refl _ w).alloc (Nat.le_refl _) _).alloc (by simp) _⟩
  · have HY := Lib.hid (HNN.out fun h => h1 (by rw [(HO.out.1 h).1]; exact beq_self_eq_true _))
    have h1' : (a.k == b.k) = false := by simpa using h1
    clear h1
    go_enter Tryz.func166, Tryz.ntmps166
    go_wp2_with fail
    go_ret
    exact ⟨ret_bool (by rw [HY.out]), ((Below.refl _ w).alloc (Nat.le_refl _) _).alloc (by simp) _⟩
theorem implSame (a : V) : ImplSameSaid a := V.all implSame_step a
end Go.Proofs.YtbfddabljkoapaaGreatDoor

/-
  The program's areKids.
-/
namespace Go.Proofs.YtbfddabljkoapaaGreatDoor
open Go.RowKit
set_option linter.unusedVariables false
set_option maxRecDepth 100000

/-- Two keys are one, by what the program compares. -/
def keySame (a b : V) : Prop := V.same b a = true
def pairsI (l : List V) : Prop := pairsTo keySame l l.length ∧ l.length % 2 = 0
def kidsI (v : V) : Prop := if v.k = 7 then True else if v.k = 9 then v.kids.length = 1 else if v.k = 8 then pairsI v.kids else v.kids.length = 0
theorem kidsI_8 {v : V} (h : v.k = 8) : kidsI v ↔ pairsI v.kids := by
  unfold kidsI
  rw [if_neg (by omega), if_neg (by omega), if_pos h]
theorem pairsToP_step {R : V → V → Prop} {l : List V} {j : Nat} (hj : j < l.length) (he : j % 2 = 0) (h : pairsTo R l j) (hk : isKeyB l[j] = true) (hn : ∀ k (hk : k < j), k % 2 = 0 → ¬ R (l[k]'(by omega)) l[j]) : pairsTo R l (j + 2) := by
  intro i hi hlt hev
  by_cases e : i = j
  · subst e; exact ⟨hk, hn⟩
  · exact h i hi (by omega) hev
theorem pairsToP_end {R : V → V → Prop} {l : List V} {j : Nat} (hj : l.length ≤ j) (h : pairsTo R l j) : pairsTo R l l.length := fun i hi _ he => h i hi (by omega) he

set_option maxHeartbeats 4000000 in
theorem implKids_8 (v : V) (A : Option Addr) (cap : Nat) (w : World) (hk : v.k = 8) (hn : v.nodes ≤ 1048577) (hat : Vs.at_ w 0 w.heap.size v.kids A) :
    Calls Tryz.prog 130 #[v.agg A cap] w fun e w' => e = .returned (.bool (decide (kidsI v))) ∧ Below w.heap.size w w' := by
  have HO := Lib.hid (kidsI_8 hk)
  have HA := Lib.hid hat
  have q7 : (v.k == 7) = false := by rw [hk]; rfl
  have q9 : (v.k == 9) = false := by rw [hk]; rfl
  have q8 : (v.k == 8) = true := by rw [hk]; rfl
  have hl : v.kids.length ≤ 1048576 := by have := Vs.len_nodes v.kids; have := V.nodes_eq v; omega
  have HNN := Lib.hid (fun (i : Nat) (h : i < v.kids.length) => show (v.kids[i]).nodes ≤ 1048577 by have := Vs.nodes_get i h; have := V.nodes_eq v; omega)
  clear hk hat hn
  unfold V.agg
  go_enter Tryz.func130, Tryz.ntmps130
  go_wp2_with fail
  go_loopw [3, 4] (fun i k wr => ∃ j : Nat, j ≤ v.kids.length + 1 ∧ j % 2 = 0 ∧ i = .int .i64 j ∧ pairsTo keySame v.kids j ∧ Blk wr w.heap.size 43 #[.int .i64 v.k, .int .i64 v.n, .int .i64 v.e, .string v.s, .slice A v.kids.length cap] ∧ Below w.heap.size w wr) (fun i _ _ => v.kids.length + 2 - (intOf i).toNat)
  case atStart => exact ⟨0, by omega, rfl, rfl, fun i _ h => by omega, Blk.new _ _ _, (Below.refl _ _).alloc (Nat.le_refl _) _⟩
  case round =>
    obtain ⟨j, hj, he, rfl, hp, B, hb⟩ := hrel
    have HP := Lib.hid hp
    have b4 : wr.cell? ⟨w.heap.size, 4, none⟩ = some (.slice A v.kids.length cap) := B.cell 4
    clear hp
    by_cases hlt : j < v.kids.length
    · obtain ⟨b, off, A', cap', eA, g1, g2, g3, ⟨c0, c1, c2, c3, c4⟩, g5⟩ := Vs.at_get j hlt (Vs.at_below HA.out hb (Nat.le_refl _))
      subst eA
      go_wp2_with fail
      refine (implIsKey v.kids[j] A' cap' _).mono ?_
      rintro e w1 ⟨rfl, hb1⟩
      have B1 := B.below hb1 B.lt
      have b1 := hb.trans (hb1.mono hb.size)
      clear c0 c1 c2 c3 c4 b4 g5
      by_cases hkey : isKeyB v.kids[j] = true
      · rw [hkey]
        have HKEY := Lib.hid hkey
        clear hkey
        go_wp2_with fail
        go_loopw [4] (fun k wq => ∃ m : Nat, m ≤ j + 1 ∧ m % 2 = 0 ∧ k = .int .i64 m ∧ (∀ q (hq : q < j), q < m → q % 2 = 0 → ¬ keySame (v.kids[q]'(by omega)) v.kids[j]) ∧ Blk wq w.heap.size 43 #[.int .i64 v.k, .int .i64 v.n, .int .i64 v.e, .string v.s, .slice (some ⟨b, off, none⟩) v.kids.length cap] ∧ Below w.heap.size w wq) (fun k _ => j + 2 - (intOf k).toNat)
        case atStart => exact ⟨0, by omega, rfl, rfl, fun q _ h => by omega, B1, b1⟩
        case round =>
          obtain ⟨m, hm, hme, rfl, hnot, Bq, hbq⟩ := hrel
          have HNOT := Lib.hid hnot
          have b4 : wr.cell? ⟨w.heap.size, 4, none⟩ = some (.slice (some ⟨b, off, none⟩) v.kids.length cap) := Bq.cell 4
          clear hnot
          by_cases hmj : m < j
          · have hmlt : m < v.kids.length := by omega
            obtain ⟨b1, off1, A1, cap1, e1, k1, k2, k3, ⟨d0, d1, d2, d3, d4⟩, k5⟩ := Vs.at_get m hmlt (Vs.at_below HA.out hbq (Nat.le_refl _))
            obtain ⟨b2, off2, A2, cap2, e2, m1, m2, m3, ⟨f0, f1, f2, f3, f4⟩, m5⟩ := Vs.at_get j hlt (Vs.at_below HA.out hbq (Nat.le_refl _))
            injection e1 with e1
            injection e1 with e11 e12
            injection e2 with e2
            injection e2 with e21 e22
            subst e11 e12 e21 e22
            go_wp2_with fail
            go_still_tail 10, (by kernel_rfl)
            change wpList _ _ _ _ _ wr.drew
            go_wp2_with fail
            refine (implSame v.kids[j] v.kids[m] A2 A1 cap2 cap1 wr.drew (HNN.out j hlt) (HNN.out m hmlt) (Vs.at_more (Nat.le_refl _) hbq.size _ _ (Vs.at_drew m5)) (Vs.at_more (Nat.le_refl _) hbq.size _ _ (Vs.at_drew k5))).mono ?_
            rintro e w2 ⟨rfl, hb2⟩
            have hbw : Below w.heap.size w w2 := hbq.drew.trans (hb2.mono hbq.size)
            have B2 := (Bq.drew).below hb2 Bq.lt
            clear d0 d1 d2 d3 d4 f0 f1 f2 f3 f4 b4 k5 m5
            by_cases hq : V.same v.kids[j] v.kids[m] = true
            · rw [hq]
              have HN : Hid (¬ kidsI v) := Lib.hid (fun h => ((HO.out.1 h).1 j hlt hlt he).2 m hmj hme hq)
              clear hq
              go_wp2_with fail
              go_ret
              exact ⟨ret_bool (decide_eq_false HN.out).symm, hbw⟩
            · have HQ := Lib.hid hq
              rw [show V.same v.kids[j] v.kids[m] = false by simpa using hq]
              clear hq
              go_wp2_with fail
              go_roundw
              case rel => exact ⟨m + 2, by omega, by omega, by go_num, fun q hq1 hq2 hq3 => by
                by_cases e : q = m
                · subst e; exact HQ.out
                · exact HNOT.out q hq1 (by omega) hq3, B2, hbw⟩
              case measure => simp [intOf]; omega
          · have HST := Lib.hid (pairsToP_step hlt he HP.out HKEY.out (fun k hk hke => HNOT.out k hk (by omega) hke))
            go_wp2_with fail
            go_roundw
            case rel => exact ⟨j + 2, by omega, by omega, by go_num, HST.out, Bq, hbq⟩
            case measure => simp [intOf]; omega
      · have hkf : isKeyB v.kids[j] = false := by simpa using hkey
        have HN : Hid (¬ kidsI v) := Lib.hid (fun h => hkey ((HO.out.1 h).1 j hlt hlt he).1)
        rw [hkf]
        go_wp2_with fail
        go_ret
        exact ⟨ret_bool (decide_eq_false HN.out).symm, b1⟩
    · have HE : Hid (kidsI v ↔ v.kids.length % 2 = 0) := Lib.hid (HO.out.trans ⟨fun h => h.2, fun h => ⟨pairsToP_end (by omega) HP.out, h⟩⟩)
      by_cases hev : v.kids.length % 2 = 0
      · have hx : ((v.kids.length : Int) % 2 == 0) = true := by rw [beq_iff_eq]; omega
        go_wp2_with fail
        go_ret
        exact ⟨ret_bool (decide_eq_true (HE.out.2 hev)).symm, hb⟩
      · have hx : ((v.kids.length : Int) % 2 == 0) = false := by rw [beq_eq_false_iff_ne]; omega
        go_wp2_with fail
        go_ret
        exact ⟨ret_bool (decide_eq_false (fun h => hev (HE.out.1 h))).symm, hb⟩

set_option maxHeartbeats 1000000 in
theorem implKids_7 (v : V) (A : Option Addr) (cap : Nat) (w : World) (hk : v.k = 7) :
    Calls Tryz.prog 130 #[v.agg A cap] w fun e w' => e = .returned (.bool (decide (kidsI v))) ∧ Below w.heap.size w w' := by
  have HO : Hid (kidsI v) := Lib.hid (by unfold kidsI; rw [if_pos hk]; trivial)
  have q7 : (v.k == 7) = true := by rw [hk]; rfl
  clear hk
  unfold V.agg
  go_enter Tryz.func130, Tryz.ntmps130
  go_wp2_with fail
  go_ret
  exact ⟨ret_bool (decide_eq_true HO.out).symm, (Below.refl _ _).alloc (Nat.le_refl _) _⟩
theorem int_eq_dec (n m : Nat) : ((n : Int) == (m : Int)) = decide (n = m) := by rw [Bool.eq_iff_iff]; simp; omega
set_option maxHeartbeats 1000000 in
theorem implKids_9 (v : V) (A : Option Addr) (cap : Nat) (w : World) (hk : v.k = 9) (hl : v.kids.length ≤ 1048576) :
    Calls Tryz.prog 130 #[v.agg A cap] w fun e w' => e = .returned (.bool (decide (kidsI v))) ∧ Below w.heap.size w w' := by
  have HO : Hid (decide (kidsI v) = ((v.kids.length : Int) == 1)) := Lib.hid (by
    have h := int_eq_dec v.kids.length 1
    rw [show ((1 : Nat) : Int) = 1 from rfl] at h
    rw [h]
    exact decide_eq_decide.2 (by unfold kidsI; rw [if_neg (by omega), if_pos hk]))
  have q7 : (v.k == 7) = false := by rw [hk]; rfl
  have q9 : (v.k == 9) = true := by rw [hk]; rfl
  clear hk
  unfold V.agg
  go_enter Tryz.func130, Tryz.ntmps130
  go_wp2_with fail
  go_ret
  exact ⟨ret_bool HO.out.symm, (Below.refl _ _).alloc (Nat.le_refl _) _⟩
set_option maxHeartbeats 1000000 in
theorem implKids_0 (v : V) (A : Option Addr) (cap : Nat) (w : World) (hk : v.k ≠ 7 ∧ v.k ≠ 8 ∧ v.k ≠ 9) (hl : v.kids.length ≤ 1048576) :
    Calls Tryz.prog 130 #[v.agg A cap] w fun e w' => e = .returned (.bool (decide (kidsI v))) ∧ Below w.heap.size w w' := by
  have HO : Hid (decide (kidsI v) = ((v.kids.length : Int) == 0)) := Lib.hid (by
    have h := int_eq_dec v.kids.length 0
    rw [show ((0 : Nat) : Int) = 0 from rfl] at h
    rw [h]
    exact decide_eq_decide.2 (by unfold kidsI; rw [if_neg hk.1, if_neg hk.2.2, if_neg hk.2.1]))
  have q7 : (v.k == 7) = false := by rw [beq_eq_false_iff_ne]; exact hk.1
  have q9 : (v.k == 9) = false := by rw [beq_eq_false_iff_ne]; exact hk.2.2
  have q8 : (v.k == 8) = false := by rw [beq_eq_false_iff_ne]; exact hk.2.1
  clear hk
  unfold V.agg
  go_enter Tryz.func130, Tryz.ntmps130
  go_wp2_with fail
  go_ret
  exact ⟨ret_bool HO.out.symm, (Below.refl _ _).alloc (Nat.le_refl _) _⟩
theorem implKids (v : V) (A : Option Addr) (cap : Nat) (w : World) (hn : v.nodes ≤ 1048577) (hat : Vs.at_ w 0 w.heap.size v.kids A) :
    Calls Tryz.prog 130 #[v.agg A cap] w fun e w' => e = .returned (.bool (decide (kidsI v))) ∧ Below w.heap.size w w' := by
  have hl : v.kids.length ≤ 1048576 := by have := Vs.len_nodes v.kids; have := V.nodes_eq v; omega
  rcases (show v.k = 7 ∨ v.k = 8 ∨ v.k = 9 ∨ (v.k ≠ 7 ∧ v.k ≠ 8 ∧ v.k ≠ 9) by omega) with h | h | h | h
  · exact implKids_7 v A cap w h
  · exact implKids_8 v A cap w h hn hat
  · exact implKids_9 v A cap w h hl
  · exact implKids_0 v A cap w h hl
end Go.Proofs.YtbfddabljkoapaaGreatDoor

/-
  A right value, as the program asks it; that is what the reference asks, where there are not too many nodes.
-/
namespace Go.Proofs.YtbfddabljkoapaaGreatDoor
open Go.RowKit
set_option linter.unusedVariables false
set_option maxRecDepth 100000

mutual
/-- A value is right as the program asks it, at most so many kids deep. -/
def V.rightI : Int → V → Prop
  | d, .mk k n e s ks => 0 ≤ d ∧ nodeOk (.mk k n e s ks) ∧ kidsI (.mk k n e s ks) ∧ Vs.rightI (d - 1) ks
def Vs.rightI : Int → List V → Prop
  | _, [] => True
  | d, v :: r => V.rightI d v ∧ Vs.rightI d r
end
theorem V.rightI_eq (d : Int) (v : V) : V.rightI d v ↔ 0 ≤ d ∧ nodeOk v ∧ kidsI v ∧ Vs.rightI (d - 1) v.kids := by cases v; simp [V.rightI, V.kids]
theorem Vs.rightI_iff (d : Int) : ∀ l : List V, Vs.rightI d l ↔ ∀ i (h : i < l.length), V.rightI d l[i]
  | [] => by simp [Vs.rightI]
  | v :: r => by
    simp only [Vs.rightI]
    rw [Vs.rightI_iff d r]
    constructor
    · rintro ⟨h1, h2⟩ i hi
      cases i with
      | zero => exact h1
      | succ i => exact h2 i (by simpa using hi)
    · intro h
      exact ⟨h 0 (by simp), fun i hi => h (i + 1) (by simpa using hi)⟩
theorem Vs.rightI_take (d : Int) (l : List V) (h : Vs.rightI d (l.take l.length)) : Vs.rightI d l := by rwa [List.take_length] at h
theorem Vs.rightI_step (d : Int) (l : List V) (j : Nat) (hj : j < l.length) (h : Vs.rightI d (l.take j)) (hv : V.rightI d l[j]) : Vs.rightI d (l.take (j + 1)) := by
  rw [Vs.rightI_iff] at h ⊢
  intro i hi
  rw [List.length_take] at hi
  by_cases e : i = j
  · subst e; simpa using hv
  · have := h i (by rw [List.length_take]; omega)
    simpa using this

/-- A key that is right has no kids and no e. -/
def leafy (v : V) : Prop := v.e = 0 ∧ v.kids.length = 0
theorem leafy_right {d : Int} {v : V} (h : V.right d v) (hk : isKeyB v = true) : leafy v := by
  obtain ⟨_, ⟨h1, h2⟩, _⟩ := (V.right_eq d v).1 h
  have hk' : v.k = 5 ∨ v.k = 3 := by simpa [isKeyB] using hk
  unfold nodeOk at h1
  unfold kidsOk at h2
  rcases hk' with hk' | hk' <;> simp [hk'] at h1 h2
  · exact ⟨h1.2.1, by simp [h2]⟩
  · exact ⟨h1.1, by simp [h2]⟩
theorem keySame_iff {a b : V} (ha : leafy a) (hb : leafy b) : keySame a b ↔ keyEq a b := by
  unfold keySame keyEq
  constructor
  · intro h
    have h0 : V.ord b a = 0 := by
      by_cases h0 : V.ord b a = 0
      · exact h0
      · rw [V.same_no h0] at h; cases h
    obtain ⟨h1, h2, h3, h4, h5⟩ := (V.ord_iff b a).1 h0
    exact ⟨h1.symm, h2.symm, h4.symm⟩
  · rintro ⟨h1, h2, h3⟩
    rw [V.same_yes h1.symm h2.symm (by rw [ha.1, hb.1]) h3.symm]
    have e1 : a.kids = [] := List.eq_nil_of_length_eq_zero ha.2
    have e2 : b.kids = [] := List.eq_nil_of_length_eq_zero hb.2
    rw [e1, e2]
    unfold Vs.same
    exact decide_eq_true ⟨rfl, by simp [Vs.cmp]⟩
theorem pairsTo_iff {l : List V} (h : ∀ i (hi : i < l.length), isKeyB l[i] = true → leafy l[i]) (m : Nat) : pairsTo keySame l m ↔ pairsTo keyEq l m := by
  unfold pairsTo
  constructor
  · intro hp i hi hm he
    obtain ⟨h1, h2⟩ := hp i hi hm he
    refine ⟨h1, fun k hk hke hq => h2 k hk hke ((keySame_iff (h k (by omega) (hp k (by omega) (by omega) hke).1) (h i hi h1)).2 hq)⟩
  · intro hp i hi hm he
    obtain ⟨h1, h2⟩ := hp i hi hm he
    refine ⟨h1, fun k hk hke hq => h2 k hk hke ((keySame_iff (h k (by omega) (hp k (by omega) (by omega) hke).1) (h i hi h1)).1 hq)⟩
theorem kidsI_iff {d : Int} {v : V} (h : Vs.right d v.kids) (hn : v.kids.length ≤ 300) : kidsI v ↔ kidsOk v := by
  unfold kidsI kidsOk
  have h2 : pairsI v.kids ↔ pairsOk v.kids := by
    unfold pairsI pairsOk
    rw [pairsTo_iff (fun i hi hk => leafy_right ((Vs.right_iff _ _).1 h i hi) hk)]
    exact ⟨fun ⟨a, b⟩ => ⟨a, b, hn⟩, fun ⟨a, b, _⟩ => ⟨a, b⟩⟩
  rw [h2]
theorem rightI_iff : ∀ v : V, v.nodes ≤ 301 → ∀ d, V.rightI d v ↔ V.right d v := by
  refine V.all fun v hk hn d => ?_
  have hkids : Vs.rightI (d - 1) v.kids ↔ Vs.right (d - 1) v.kids := by
    rw [Vs.rightI_iff, Vs.right_iff]
    have h1 : ∀ i (h : i < v.kids.length), (v.kids[i]).nodes ≤ 301 := fun i h => by have := Vs.nodes_get i h; have := V.nodes_eq v; omega
    exact ⟨fun h i hi => (hk i hi (h1 i hi) _).1 (h i hi), fun h i hi => (hk i hi (h1 i hi) _).2 (h i hi)⟩
  rw [V.rightI_eq, V.right_eq, hkids]
  have hl : v.kids.length ≤ 300 := by have := Vs.len_nodes v.kids; have := V.nodes_eq v; omega
  unfold ownOk
  constructor
  · rintro ⟨a, b, c, e⟩; exact ⟨a, ⟨b, (kidsI_iff e hl).1 c⟩, e⟩
  · rintro ⟨a, ⟨b, c⟩, e⟩; exact ⟨a, b, (kidsI_iff e hl).2 c, e⟩
/-- What is asked of a value where there may be so many nodes. -/
def inV (L : Nat) (d : Int) (v : V) : Prop := v.nodes ≤ L ∧ V.rightI (12 - d) v
theorem inV_okV (v : V) : inV 300 0 v ↔ okV v := by
  unfold inV okV
  constructor
  · rintro ⟨h1, h2⟩; exact ⟨(rightI_iff v (by omega) _).1 (by simpa using h2), h1⟩
  · rintro ⟨h1, h2⟩; exact ⟨h2, (rightI_iff v (by omega) _).2 (by simpa using h1)⟩
end Go.Proofs.YtbfddabljkoapaaGreatDoor

/-
  What a call keeps that may write into some blocks alone.
-/
namespace Go.Proofs.YtbfddabljkoapaaGreatDoor
open Go.RowKit
set_option linter.unusedVariables false
set_option linter.unusedSimpArgs false

/-- Only blocks of D may have changed, and what is D's behind it was D's or is new. -/
structure Keep (D : World → Nat → Prop) (w w' : World) : Prop where
  os : w'.os = w.os
  tape : w'.tape = w.tape
  output : w'.output = w.output
  size : w.heap.size ≤ w'.heap.size
  block : ∀ k, k < w.heap.size → ¬ D w k → w'.heap[k]? = w.heap[k]? ∧ ¬ D w' k
theorem Keep.trans {D : World → Nat → Prop} {a b c : World} (h : Keep D a b) (k : Keep D b c) : Keep D a c :=
  ⟨k.os.trans h.os, k.tape.trans h.tape, k.output.trans h.output, Nat.le_trans h.size k.size, fun i hi hd => by
    obtain ⟨h1, h2⟩ := h.block i hi hd
    obtain ⟨k1, k2⟩ := k.block i (Nat.lt_of_lt_of_le hi h.size) h2
    exact ⟨k1.trans h1, k2⟩⟩
theorem Keep.refl {D : World → Nat → Prop} (w : World) : Keep D w w := ⟨rfl, rfl, rfl, Nat.le_refl _, fun _ _ h => ⟨rfl, h⟩⟩

theorem Keep.below {D : World → Nat → Prop} {w w0 w1 : World} {B : Nat} (h : Keep D w0 w1) (hb : Below B w w0) (hB : B ≤ w0.heap.size) (hd : ∀ k, k < B → ¬ D w0 k) : Below B w w1 :=
  ⟨h.os.trans hb.os, h.tape.trans hb.tape, h.output.trans hb.output, Nat.le_trans hb.size h.size, fun k hk => (h.block k (Nat.lt_of_lt_of_le hk hB) (hd k hk)).1.trans (hb.block k hk)⟩
theorem Keep.at_ {D : World → Nat → Prop} {w w' : World} (h : Keep D w w') {lo hi : Nat} {l : List V} {A : Option Addr} (ha : Vs.at_ w lo hi l A) (hh : hi ≤ w.heap.size) (hd : ∀ k, k < hi → ¬ D w k) : Vs.at_ w' lo hi l A :=
  Vs.at_keep (fun p _ hp => World.cell?_of_block (h.block p.block (by omega) (hd _ hp)).1) _ _ ha
theorem Keep.blk {D : World → Nat → Prop} {w w' : World} (h : Keep D w w') {g : Nat} {t : TypeId} {cs : Array Value} (hb : Blk w g t cs) (hd : ¬ D w g) : Blk w' g t cs ∧ ¬ D w' g :=
  ⟨(h.block g hb.lt hd).1.trans hb, (h.block g hb.lt hd).2⟩

theorem Blk.set1 {w : World} {g : Nat} {t : TypeId} {u : Value} (h : Blk w g t #[u]) (u' : Value) : Blk (w.setCell ⟨g, 0, none⟩ u') g t #[u'] := one_setCell h
/-- A store into the one captured variable. -/
theorem keep_set1 {g : Nat} {w : World} {a : World} (h : Keep (fun _ k => k = g) a w) (u : Value) : Keep (fun _ k => k = g) a (w.setCell ⟨g, 0, none⟩ u) :=
  ⟨h.os, h.tape, h.output, by simpa using h.size, fun k hk hd => ⟨(Below.heap_setCell w ⟨g, 0, none⟩ u k (by simpa using hd)).trans (h.block k hk hd).1, hd⟩⟩
theorem keep_alloc1 {g : Nat} {a w : World} (h : Keep (fun _ k => k = g) a w) (o : Obj) : Keep (fun _ k => k = g) a (w.alloc o) :=
  ⟨h.os, h.tape, h.output, Nat.le_trans h.size (by simp), fun k hk hd => ⟨(Below.heap_alloc w o k (Nat.lt_of_lt_of_le hk h.size)).trans (h.block k hk hd).1, hd⟩⟩
end Go.Proofs.YtbfddabljkoapaaGreatDoor

/-
  The reference's test of a value but for its kids' rightness.
-/
import Derived.Test.YtbflkcldjjpioaaDoorRightS
import Derived.Test.YtbflkcldjjpioaaDoorSignsS
namespace Go.Proofs.YtbflkcldjjpioaaDoor
open Go.RowKit
set_option linter.unusedVariables false
set_option maxRecDepth 100000

theorem bl_q {w w1 : World} {o : Obj} {n : Nat} (h : Below ((w.alloc o).drewN n).heap.size ((w.alloc o).drewN n) w1) : Below w.heap.size w w1 :=
  (below_drewN ((Below.refl w.heap.size w).alloc (Nat.le_refl _) o) n).trans (h.mono (by show w.heap.size ≤ (w.alloc o).heap.size; simp))
theorem blk_q {w : World} {g n : Nat} {t : TypeId} {cs : Array Value} (h : Blk w g t cs) : Blk (w.drewN n) g t cs := h
theorem at_q {w : World} {o : Obj} {n : Nat} {l : List V} {A : Option Addr} (h : Vs.at_ w 0 w.heap.size l A) : Vs.at_ ((w.alloc o).drewN n) 0 ((w.alloc o).drewN n).heap.size l A :=
  Vs.at_more (Nat.le_refl _) (by show w.heap.size ≤ (w.alloc o).heap.size; simp) _ _ (Vs.at_keep (w := w.alloc o) (w' := (w.alloc o).drewN n) (fun _ _ _ => rfl) _ _ (Vs.at_alloc h (Nat.le_refl _) o))
theorem s_empty (s : ByteArray) : s.size = 0 ↔ s.toList = [] := by
  rw [ByteArray.toList_eq]
  constructor
  · intro h
    have : s.data.toList.length = 0 := by simpa using h
    exact List.length_eq_zero_iff.1 this
  · intro h
    have : s.data.toList.length = 0 := by rw [h]; rfl
    simpa using this
theorem len0 (n : Nat) : n = 0 ↔ ((n : Int) == 0) = true := by rw [beq_iff_eq]; omega
theorem len1 (n : Nat) : n = 1 ↔ ((n : Int) == 1) = true := by rw [beq_iff_eq]; omega
theorem sz2000 (n : Nat) : n ≤ 2000 ↔ (n : Int) ≤ 2000 := by omega
theorem own_k012 {v : V} (h : v.k = 0 ∨ v.k = 1 ∨ v.k = 2) : ownOk v ↔ v.n = 0 ∧ v.e = 0 ∧ v.s.toList = [] ∧ ((v.kids.length : Int) == 0) = true := by
  unfold ownOk nodeOk kidsOk
  rw [if_pos (by omega), if_neg (by omega), if_neg (by omega), if_neg (by omega), s_empty, len0]
  simp only [and_assoc]
theorem own_k3 {v : V} (h : v.k = 3) : ownOk v ↔ v.e = 0 ∧ v.s.toList = [] ∧ ((v.kids.length : Int) == 0) = true := by
  unfold ownOk nodeOk kidsOk
  rw [if_neg (by omega), if_pos (by omega), if_neg (by omega), if_neg (by omega), if_neg (by omega), s_empty, len0]
  simp only [and_assoc]
theorem own_k4 {v : V} (h : v.k = 4) : ownOk v ↔ decOk v.n v.e ∧ v.s.toList = [] ∧ ((v.kids.length : Int) == 0) = true := by
  unfold ownOk nodeOk kidsOk
  rw [if_neg (by omega), if_neg (by omega), if_pos (by omega), if_neg (by omega), if_neg (by omega), if_neg (by omega), s_empty, len0]
  simp only [and_assoc]
theorem own_k5 {v : V} (h : v.k = 5) : ownOk v ↔ v.n = 0 ∧ v.e = 0 ∧ textOk v.s = true ∧ (v.s.size : Int) ≤ 2000 ∧ ((v.kids.length : Int) == 0) = true := by
  unfold ownOk nodeOk kidsOk
  rw [if_neg (by omega), if_neg (by omega), if_neg (by omega), if_pos (by omega), if_neg (by omega), if_neg (by omega), if_neg (by omega), sz2000, len0]
  simp only [and_assoc]
theorem own_k6 {v : V} (h : v.k = 6) : ownOk v ↔ v.n = 0 ∧ v.e = 0 ∧ (v.s.size : Int) ≤ 2000 ∧ ((v.kids.length : Int) == 0) = true := by
  unfold ownOk nodeOk kidsOk
  rw [if_neg (by omega), if_neg (by omega), if_neg (by omega), if_neg (by omega), if_pos (by omega), if_neg (by omega), if_neg (by omega), if_neg (by omega), sz2000, len0]
  simp only [and_assoc]
theorem own_k7 {v : V} (h : v.k = 7) : ownOk v ↔ v.n = 0 ∧ v.e = 0 ∧ v.s.toList = [] := by
  unfold ownOk nodeOk kidsOk
  rw [if_pos (by omega), if_pos (by omega), s_empty]
  simp only [and_true]
theorem own_k8 {v : V} (h : v.k = 8) : ownOk v ↔ v.n = 0 ∧ v.e = 0 ∧ v.s.toList = [] ∧ pairsOk v.kids := by
  unfold ownOk nodeOk kidsOk
  rw [if_pos (by omega), if_neg (by omega), if_neg (by omega), if_pos (by omega), s_empty]
  simp only [and_assoc]
theorem own_k9 {v : V} (h : v.k = 9) : ownOk v ↔ (0 ≤ v.n ∧ v.n ≤ 1000000) ∧ v.e = 0 ∧ v.s.toList = [] ∧ ((v.kids.length : Int) == 1) = true := by
  unfold ownOk nodeOk kidsOk
  rw [if_neg (by omega), if_neg (by omega), if_neg (by omega), if_neg (by omega), if_neg (by omega), if_pos (by omega), if_neg (by omega), if_pos (by omega), s_empty, len1]
  simp only [and_assoc]
theorem dec_bool {n e : Int} (h1 : -20 ≤ e) (h2 : e ≤ 20) (h3 : e ≠ 0) (h4 : -999999999999999999 ≤ n) (h5 : n ≤ 999999999999999999) (h6 : ¬ Int.tmod n 10 = 0) : (!(decide (0 < e) && (tens n e.toNat).isSome)) = true ↔ decOk n e := by
  unfold decOk
  cases ht : tens n e.toNat with
  | none => simp [*]
  | some x => simp [*]
theorem own_else {v : V} (h : v.k < 0 ∨ 9 < v.k) : ¬ ownOk v := by
  unfold ownOk nodeOk
  rw [if_neg (by omega), if_neg (by omega), if_neg (by omega), if_neg (by omega), if_neg (by omega), if_neg (by omega)]
  exact fun h => h.1

set_option maxHeartbeats 4000000 in
theorem specOwn_0 (v : V) (A : Option Addr) (cap : Nat) (w : World) (hk : v.k = 0) (hl : v.kids.length ≤ 1048576) :
    Calls Tryd.prog 94 #[v.agg A cap] w fun e w' => e = .returned (.bool (decide (ownOk v))) ∧ Below w.heap.size w w' := by
  have HO := Lib.hid (own_k012 (.inl hk))
  unfold V.agg
  go_enter Tryd.func94, Tryd.ntmps94
  go_wp2_with fail
  go_quiet (fail)
  go_wp2_with fail
  all_goals go_ret
  all_goals refine ⟨ret_bool ?_, below_drewN ((Below.refl _ _).alloc (Nat.le_refl _) _) _⟩
  all_goals try generalize ((v.kids.length : Int) == 0) = bl at *
  all_goals first
    | (simp [HO.out, *]; done)
    | (simp [HO.out, *]; intro; omega)
    | (simp [HO.out, *]; cases v.s.toList <;> rfl)

set_option maxHeartbeats 4000000 in
theorem specOwn_1 (v : V) (A : Option Addr) (cap : Nat) (w : World) (hk : v.k = 1) (hl : v.kids.length ≤ 1048576) :
    Calls Tryd.prog 94 #[v.agg A cap] w fun e w' => e = .returned (.bool (decide (ownOk v))) ∧ Below w.heap.size w w' := by
  have HO := Lib.hid (own_k012 (.inr (.inl hk)))
  unfold V.agg
  go_enter Tryd.func94, Tryd.ntmps94
  go_wp2_with fail
  go_quiet (fail)
  go_wp2_with fail
  all_goals go_ret
  all_goals refine ⟨ret_bool ?_, below_drewN ((Below.refl _ _).alloc (Nat.le_refl _) _) _⟩
  all_goals try generalize ((v.kids.length : Int) == 0) = bl at *
  all_goals first
    | (simp [HO.out, *]; done)
    | (simp [HO.out, *]; intro; omega)
    | (simp [HO.out, *]; cases v.s.toList <;> rfl)

set_option maxHeartbeats 4000000 in
theorem specOwn_2 (v : V) (A : Option Addr) (cap : Nat) (w : World) (hk : v.k = 2) (hl : v.kids.length ≤ 1048576) :
    Calls Tryd.prog 94 #[v.agg A cap] w fun e w' => e = .returned (.bool (decide (ownOk v))) ∧ Below w.heap.size w w' := by
  have HO := Lib.hid (own_k012 (.inr (.inr hk)))
  unfold V.agg
  go_enter Tryd.func94, Tryd.ntmps94
  go_wp2_with fail
  go_quiet (fail)
  go_wp2_with fail
  all_goals go_ret
  all_goals refine ⟨ret_bool ?_, below_drewN ((Below.refl _ _).alloc (Nat.le_refl _) _) _⟩
  all_goals try generalize ((v.kids.length : Int) == 0) = bl at *
  all_goals first
    | (simp [HO.out, *]; done)
    | (simp [HO.out, *]; intro; omega)
    | (simp [HO.out, *]; cases v.s.toList <;> rfl)

set_option maxHeartbeats 4000000 in
theorem specOwn_3 (v : V) (A : Option Addr) (cap : Nat) (w : World) (hk : v.k = 3) (hl : v.kids.length ≤ 1048576) :
    Calls Tryd.prog 94 #[v.agg A cap] w fun e w' => e = .returned (.bool (decide (ownOk v))) ∧ Below w.heap.size w w' := by
  have HO := Lib.hid (own_k3 hk)
  unfold V.agg
  go_enter Tryd.func94, Tryd.ntmps94
  go_wp2_with fail
  go_quiet (fail)
  go_wp2_with fail
  all_goals go_ret
  all_goals refine ⟨ret_bool ?_, below_drewN ((Below.refl _ _).alloc (Nat.le_refl _) _) _⟩
  all_goals try generalize ((v.kids.length : Int) == 0) = bl at *
  all_goals first
    | (simp [HO.out, *]; done)
    | (simp [HO.out, *]; intro; omega)
    | (simp [HO.out, *]; cases v.s.toList <;> rfl)

set_option maxHeartbeats 4000000 in
theorem specOwn_6 (v : V) (A : Option Addr) (cap : Nat) (w : World) (hk : v.k = 6) (hl : v.kids.length ≤ 1048576) :
    Calls Tryd.prog 94 #[v.agg A cap] w fun e w' => e = .returned (.bool (decide (ownOk v))) ∧ Below w.heap.size w w' := by
  have HO := Lib.hid (own_k6 hk)
  unfold V.agg
  go_enter Tryd.func94, Tryd.ntmps94
  go_wp2_with fail
  go_quiet (fail)
  go_wp2_with fail
  all_goals go_ret
  all_goals refine ⟨ret_bool ?_, below_drewN ((Below.refl _ _).alloc (Nat.le_refl _) _) _⟩
  all_goals try generalize ((v.kids.length : Int) == 0) = bl at *
  all_goals first
    | (simp [HO.out, *]; done)
    | (simp [HO.out, *]; intro; omega)
    | (simp [HO.out, *]; cases v.s.toList <;> rfl)

set_option maxHeartbeats 4000000 in
theorem specOwn_7 (v : V) (A : Option Addr) (cap : Nat) (w : World) (hk : v.k = 7) (hl : v.kids.length ≤ 1048576) :
    Calls Tryd.prog 94 #[v.agg A cap] w fun e w' => e = .returned (.bool (decide (ownOk v))) ∧ Below w.heap.size w w' := by
  have HO := Lib.hid (own_k7 hk)
  unfold V.agg
  go_enter Tryd.func94, Tryd.ntmps94
  go_wp2_with fail
  go_quiet (fail)
  go_wp2_with fail
  all_goals go_ret
  all_goals refine ⟨ret_bool ?_, below_drewN ((Below.refl _ _).alloc (Nat.le_refl _) _) _⟩
  all_goals try generalize ((v.kids.length : Int) == 0) = bl at *
  all_goals first
    | (simp [HO.out, *]; done)
    | (simp [HO.out, *]; intro; omega)
    | (simp [HO.out, *]; cases v.s.toList <;> rfl)

set_option maxHeartbeats 4000000 in
theorem specOwn_5 (v : V) (A : Option Addr) (cap : Nat) (w : World) (hk : v.k = 5) (hl : v.kids.length ≤ 1048576) (hs : v.s.size ≤ 1048576) :
    Calls Tryd.prog 94 #[v.agg A cap] w fun e w' => e = .returned (.bool (decide (ownOk v))) ∧ Below w.heap.size w w' := by
  have HO := Lib.hid (own_k5 hk)
  unfold V.agg
  go_enter Tryd.func94, Tryd.ntmps94
  go_wp2_with fail
  go_quiet (fail)
  go_wp2_with (go_at_call 120; refine (specTextOk v.s _ hs).mono ?_; rintro e w1 ⟨rfl, hb1⟩; obtain ⟨p0, p1, p2, p3, p4⟩ := ((blk_q (Blk.new _ _ _)).below hb1 (by simp)).five; have hq := hb1.size)
  all_goals go_ret
  all_goals refine ⟨ret_bool ?_, by first | exact below_drewN ((Below.refl _ _).alloc (Nat.le_refl _) _) _ | exact bl_q hb1⟩
  all_goals try generalize ((v.kids.length : Int) == 0) = bl at *
  all_goals try generalize ((v.kids.length : Int) == 1) = bl at *
  all_goals first
    | (simp [HO.out, *]; done)
    | (simp [HO.out, *]; intro; omega)
    | (simp [HO.out, *]; cases v.s.toList <;> rfl)

set_option maxHeartbeats 4000000 in
theorem specOwn_8 (v : V) (A : Option Addr) (cap : Nat) (w : World) (hk : v.k = 8) (hl : v.kids.length ≤ 1048576) (hat : Vs.at_ w 0 w.heap.size v.kids A) :
    Calls Tryd.prog 94 #[v.agg A cap] w fun e w' => e = .returned (.bool (decide (ownOk v))) ∧ Below w.heap.size w w' := by
  have HO := Lib.hid (own_k8 hk)
  have HA := Lib.hid hat
  clear hat
  unfold V.agg
  go_enter Tryd.func94, Tryd.ntmps94
  go_wp2_with fail
  go_quiet (fail)
  go_wp2_with (go_at_call 121; refine (specPairs v.kids A cap _ hl (at_q HA.out)).mono ?_; rintro e w1 ⟨rfl, hb1⟩)
  all_goals go_ret
  all_goals refine ⟨ret_bool ?_, by first | exact below_drewN ((Below.refl _ _).alloc (Nat.le_refl _) _) _ | exact bl_q hb1⟩
  all_goals try generalize ((v.kids.length : Int) == 0) = bl at *
  all_goals try generalize ((v.kids.length : Int) == 1) = bl at *
  all_goals first
    | (simp [HO.out, *]; done)
    | (simp [HO.out, *]; intro; omega)
    | (simp [HO.out, *]; cases v.s.toList <;> rfl)

set_option maxHeartbeats 4000000 in
theorem specOwn_9 (v : V) (A : Option Addr) (cap : Nat) (w : World) (hk : v.k = 9) (hl : v.kids.length ≤ 1048576) :
    Calls Tryd.prog 94 #[v.agg A cap] w fun e w' => e = .returned (.bool (decide (ownOk v))) ∧ Below w.heap.size w w' := by
  have HO := Lib.hid (own_k9 hk)
  unfold V.agg
  go_enter Tryd.func94, Tryd.ntmps94
  go_wp2_with fail
  go_quiet (fail)
  go_wp2_with (go_at_call 27; go_in)
  all_goals go_ret
  all_goals refine ⟨ret_bool ?_, by first | exact below_drewN ((Below.refl _ _).alloc (Nat.le_refl _) _) _ | exact bl_q hb1⟩
  all_goals try generalize ((v.kids.length : Int) == 0) = bl at *
  all_goals try generalize ((v.kids.length : Int) == 1) = bl at *
  all_goals first
    | (simp [HO.out, *]; done)
    | (simp [HO.out, *]; intro; omega)
    | (simp [HO.out, *]; cases v.s.toList <;> rfl)

set_option maxHeartbeats 4000000 in
theorem specOwn_4 (v : V) (A : Option Addr) (cap : Nat) (w : World) (hk : v.k = 4) (hl : v.kids.length ≤ 1048576) :
    Calls Tryd.prog 94 #[v.agg A cap] w fun e w' => e = .returned (.bool (decide (ownOk v))) ∧ Below w.heap.size w w' := by
  have HO := Lib.hid (own_k4 hk)
  unfold V.agg
  go_enter Tryd.func94, Tryd.ntmps94
  go_wp2_with fail
  go_quiet (fail)
  go_wp2_with (first | (go_at_call 27; go_in) | (go_at_call 119; refine (specWhole v.n v.e _ (by unfold inR; omega) (by omega)).mono ?_; rintro e w1 ⟨rfl, rfl⟩))
  all_goals go_ret
  all_goals refine ⟨ret_bool ?_, below_drewN ((Below.refl _ _).alloc (Nat.le_refl _) _) _⟩
  all_goals first
    | (refine Eq.symm (decide_eq_false (fun h => ?_)); have h := HO.out.1 h; obtain ⟨⟨q1, q2, q3, q4, q5, q6, q7⟩, q8, q9⟩ := h; first | omega | (rw [beq_iff_eq] at q9; simp_all; done) | (simp_all; done))
    | (have hb := dec_bool (n := v.n) (e := v.e) (by omega) (by omega) (by omega) (by omega) (by omega) (by assumption)
       rw [Bool.eq_iff_iff, decide_eq_true_iff, HO.out, ← hb]
       simp [*])

theorem specOwn_else (v : V) (A : Option Addr) (cap : Nat) (w : World) (hk : v.k < 0 ∨ 9 < v.k) :
    Calls Tryd.prog 94 #[v.agg A cap] w fun e w' => e = .returned (.bool (decide (ownOk v))) ∧ Below w.heap.size w w' := by
  have HO := Lib.hid (own_else hk)
  have q0 : (v.k == 0) = false := by rw [beq_eq_false_iff_ne]; omega
  have q1 : (v.k == 1) = false := by rw [beq_eq_false_iff_ne]; omega
  have q2 : (v.k == 2) = false := by rw [beq_eq_false_iff_ne]; omega
  have q3 : (v.k == 3) = false := by rw [beq_eq_false_iff_ne]; omega
  have q4 : (v.k == 4) = false := by rw [beq_eq_false_iff_ne]; omega
  have q5 : (v.k == 5) = false := by rw [beq_eq_false_iff_ne]; omega
  have q6 : (v.k == 6) = false := by rw [beq_eq_false_iff_ne]; omega
  have q7 : (v.k == 7) = false := by rw [beq_eq_false_iff_ne]; omega
  have q8 : (v.k == 8) = false := by rw [beq_eq_false_iff_ne]; omega
  have q9 : (v.k == 9) = false := by rw [beq_eq_false_iff_ne]; omega
  clear hk
  unfold V.agg
  go_enter Tryd.func94, Tryd.ntmps94
  go_wp2_with fail
  go_quiet (fail)
  go_wp2_with fail
  go_ret
  exact ⟨ret_bool (decide_eq_false HO.out).symm, below_drewN ((Below.refl _ _).alloc (Nat.le_refl _) _) _⟩
theorem specOwn (v : V) (A : Option Addr) (cap : Nat) (w : World) (hl : v.kids.length ≤ 1048576) (hs : v.s.size ≤ 1048576) (hat : Vs.at_ w 0 w.heap.size v.kids A) :
    Calls Tryd.prog 94 #[v.agg A cap] w fun e w' => e = .returned (.bool (decide (ownOk v))) ∧ Below w.heap.size w w' := by
  rcases (show v.k = 0 ∨ v.k = 1 ∨ v.k = 2 ∨ v.k = 3 ∨ v.k = 4 ∨ v.k = 5 ∨ v.k = 6 ∨ v.k = 7 ∨ v.k = 8 ∨ v.k = 9 ∨ (v.k < 0 ∨ 9 < v.k) by omega) with h | h | h | h | h | h | h | h | h | h | h
  · exact specOwn_0 v A cap w h hl
  · exact specOwn_1 v A cap w h hl
  · exact specOwn_2 v A cap w h hl
  · exact specOwn_3 v A cap w h hl
  · exact specOwn_4 v A cap w h hl
  · exact specOwn_5 v A cap w h hl hs
  · exact specOwn_6 v A cap w h hl
  · exact specOwn_7 v A cap w h hl
  · exact specOwn_8 v A cap w h hl hat
  · exact specOwn_9 v A cap w h hl
  · exact specOwn_else v A cap w h
end Go.Proofs.YtbflkcldjjpioaaDoor

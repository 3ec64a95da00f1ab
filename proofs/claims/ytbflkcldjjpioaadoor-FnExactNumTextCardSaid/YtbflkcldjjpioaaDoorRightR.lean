/-
  ValueOk of the reference.
-/
import Derived.Test.YtbflkcldjjpioaaDoorRightO
namespace Go.Proofs.YtbflkcldjjpioaaDoor
open Go.RowKit
set_option linter.unusedVariables false
set_option maxRecDepth 100000

theorem Vs.weight_get {l : List V} (i : Nat) (h : i < l.length) : (l[i]).weight + 1 ≤ Vs.weight l := by
  have h1 := Vs.weight_step l i h
  have h2 := Vs.weight_take l (i + 1)
  omega
theorem V.weight_kids (v : V) : v.s.size ≤ v.weight ∧ v.kids.length ≤ v.weight ∧ Vs.weight v.kids ≤ v.weight := by
  have := V.weight_eq v
  have := Vs.len_le v.kids
  omega
def SpecRightSaid (v : V) : Prop := ∀ (d : Int) (A : Option Addr) (cap : Nat) (w : World), v.weight ≤ 1048576 → -1 ≤ d → d ≤ 12 → Vs.at_ w 0 w.heap.size v.kids A →
    Calls Tryd.prog 60 #[v.agg A cap, .int .i64 d] w fun e w' => e = .returned (.bool (decide (V.right d v))) ∧ Below w.heap.size w w'

set_option maxHeartbeats 2000000 in
theorem specRight_step (v : V) (hk : ∀ i (h : i < v.kids.length), SpecRightSaid v.kids[i]) : SpecRightSaid v := by
  intro d A cap w hw hd1 hd2 hat
  obtain ⟨hw1, hw2, hw3⟩ := V.weight_kids v
  have HE := Lib.hid (V.right_eq d v)
  by_cases hd : d < 0
  · have HN : Hid (¬ V.right d v) := Lib.hid (fun h => by have := (HE.out.1 h).1; omega)
    unfold V.agg
    go_enter Tryd.func60, Tryd.ntmps60
    go_wp2_with fail
    go_ret
    exact ⟨ret_bool (decide_eq_false HN.out).symm, (Below.refl _ _).alloc (Nat.le_refl _) _⟩
  · have hdd : decide (d < 0) = false := decide_eq_false hd
    have hC := fun (i : Nat) (h : i < v.kids.length) (A' : Option Addr) (c : Nat) (w' : World) (h1 : Vs.at_ w' 0 w'.heap.size (v.kids[i]).kids A') => hk i h (d - 1) A' c w' (by have := Vs.weight_get i h; omega) (by omega) (by omega) h1
    have HC := Lib.hid hC
    have HA := Lib.hid hat
    clear hC hk hat
    unfold V.agg
    go_enter Tryd.func60, Tryd.ntmps60
    go_wp2_with fail
    refine (specOwn v A cap _ (by omega) (by omega) (Vs.at_more (Nat.le_refl _) (by simp) _ _ (Vs.at_alloc HA.out (Nat.le_refl _) _))).mono ?_
    rintro e w1 ⟨rfl, hb1⟩
    have B1 := (Blk.new _ _ _).below hb1 (by simp)
    have b1 : Below w.heap.size w w1 := ((Below.refl _ w).alloc (Nat.le_refl _) _).trans (hb1.mono (by simp))
    clear hb1
    by_cases ho : ownOk v
    · rw [show decide (ownOk v) = true from decide_eq_true ho]
      have HO := Lib.hid ho
      clear ho
      go_wp2_with fail
      go_loopw [5] (fun i wr => ∃ j : Nat, j ≤ v.kids.length ∧ i = .int .i64 j ∧ Vs.right (d - 1) (v.kids.take j) ∧ Blk wr w.heap.size 34 #[.int .i64 v.k, .int .i64 v.n, .int .i64 v.e, .string v.s, .slice A v.kids.length cap] ∧ Below w.heap.size w wr) (fun i _ => v.kids.length - (intOf i).toNat)
      case atStart => exact ⟨0, Nat.zero_le _, rfl, by simp [Vs.right], B1, b1⟩
      case round =>
        obtain ⟨j, hj, rfl, hr, B, hb⟩ := hrel
        have HR := Lib.hid hr
        clear hr
        have b4 : wr.cell? ⟨w.heap.size, 4, none⟩ = some (.slice A v.kids.length cap) := B.cell 4
        by_cases hlt : j < v.kids.length
        · obtain ⟨b, off, A', cap', rfl, g1, g2, g3, ⟨c0, c1, c2, c3, c4⟩, g5⟩ := Vs.at_get j hlt (Vs.at_below HA.out hb (Nat.le_refl _))
          go_wp2_with fail
          refine (HC.out j hlt A' cap' _ (Vs.at_more (Nat.le_refl _) hb.size _ _ g5)).mono ?_
          rintro e w2 ⟨rfl, hb2⟩
          have hbw : Below w.heap.size w w2 := hb.trans (hb2.mono hb.size)
          have B' := B.below hb2 B.lt
          clear c0 c1 c2 c3 c4 b4
          by_cases hv : V.right (d - 1) v.kids[j]
          · rw [show decide (V.right (d - 1) v.kids[j]) = true from decide_eq_true hv]
            have HV := Lib.hid (Vs.right_step (d - 1) v.kids j hlt HR.out hv)
            clear hv
            go_wp2_with fail
            go_roundw
            case rel => exact ⟨j + 1, by omega, by go_num, HV.out, B', hbw⟩
            case measure => simp [intOf]; omega
          · rw [show decide (V.right (d - 1) v.kids[j]) = false from decide_eq_false hv]
            have HN : Hid (¬ V.right d v) := Lib.hid (fun h => hv ((Vs.right_iff _ _).1 (HE.out.1 h).2.2 j hlt))
            clear hv
            go_wp2_with fail
            go_ret
            exact ⟨ret_bool (decide_eq_false HN.out).symm, hbw⟩
        · obtain rfl : j = v.kids.length := by omega
          have HY : Hid (V.right d v) := Lib.hid (HE.out.2 ⟨by omega, HO.out, Vs.right_take _ _ HR.out⟩)
          go_wp2_with fail
          go_ret
          exact ⟨ret_bool (decide_eq_true HY.out).symm, hb⟩
    · rw [show decide (ownOk v) = false from decide_eq_false ho]
      have HN : Hid (¬ V.right d v) := Lib.hid (fun h => ho (HE.out.1 h).2.1)
      clear ho
      go_wp2_with fail
      go_ret
      exact ⟨ret_bool (decide_eq_false HN.out).symm, b1⟩
theorem specRight : ∀ v, SpecRightSaid v := V.all specRight_step

set_option maxHeartbeats 2000000 in
theorem specValueOk (v : V) (A : Option Addr) (cap : Nat) (w : World) (hw : v.weight ≤ 1048576) (hat : Vs.at_ w 0 w.heap.size v.kids A) :
    Calls Tryd.prog 34 #[v.agg A cap] w fun e w' => e = .returned (.bool (decide (okV v))) ∧ Below w.heap.size w w' := by
  have HA := Lib.hid hat
  have hn : v.nodes ≤ 1048577 := by have := V.nodes_weight v; omega
  clear hat
  unfold V.agg
  go_enter Tryd.func34, Tryd.ntmps34
  go_wp2_with fail
  refine (specRight v 12 A cap _ hw (by omega) (by omega) (Vs.at_more (Nat.le_refl _) (by simp) _ _ (Vs.at_alloc HA.out (Nat.le_refl _) _))).mono ?_
  rintro e w1 ⟨rfl, hb1⟩
  obtain ⟨p0, p1, p2, p3, p4⟩ := ((Blk.new _ _ _).below hb1 (by simp)).five
  have b1 : Below w.heap.size w w1 := ((Below.refl _ w).alloc (Nat.le_refl _) _).trans (hb1.mono (by simp))
  by_cases hr : V.right 12 v
  · rw [show decide (V.right 12 v) = true from decide_eq_true hr]
    have HK : Hid (decide (okV v) = decide ((v.nodes : Int) ≤ 300)) := Lib.hid (decide_eq_decide.2 ⟨fun h => by have := h.2; omega, fun h => ⟨hr, by omega⟩⟩)
    clear hr hb1
    go_wp2_with fail
    refine (specNodes v A cap _ hn (Vs.at_more (Nat.le_refl _) b1.size _ _ (Vs.at_below HA.out b1 (Nat.le_refl _)))).mono ?_
    rintro e w2 ⟨rfl, hb2⟩
    go_wp2_with fail
    go_ret
    exact ⟨ret_bool HK.out.symm, b1.trans (hb2.mono b1.size)⟩
  · rw [show decide (V.right 12 v) = false from decide_eq_false hr]
    have HK : Hid (decide (okV v) = false) := Lib.hid (decide_eq_false fun h => hr h.1)
    clear hr hb1
    go_wp2_with fail
    go_ret
    exact ⟨ret_bool HK.out.symm, b1⟩
end Go.Proofs.YtbflkcldjjpioaaDoor

/-
  The laws' own test of equality holds of two copies of one value.
-/
import Derived.Test.YtbflkcldjjpioaaDoorTree
import Derived.StillTailTactics
namespace Go.Proofs.YtbflkcldjjpioaaDoor
open Go.RowKit
set_option linter.unusedVariables false
set_option maxRecDepth 100000
set_option linter.unusedSimpArgs false

def EqSaid (v : V) : Prop := ∀ (A A2 : Option Addr) (cap cap2 : Nat) (w : World), v.nodes ≤ 1048577 → Vs.at_ w 0 w.heap.size v.kids A → Vs.at_ w 0 w.heap.size v.kids A2 →
    Calls Tryd.prog 17 #[v.agg A cap, v.agg A2 cap2] w fun e w' => e = .returned (.bool true) ∧ Below w.heap.size w w'
def EqSSaid (l : List V) : Prop := ∀ (A A2 : Option Addr) (cap cap2 : Nat) (w : World), Vs.nodes l ≤ 1048576 → Vs.at_ w 0 w.heap.size l A → Vs.at_ w 0 w.heap.size l A2 →
    Calls Tryd.prog 33 #[.slice A l.length cap, .slice A2 l.length cap2] w fun e w' => e = .returned (.bool true) ∧ Below w.heap.size w w'


set_option maxHeartbeats 1000000 in
theorem eq_step (v : V) (hk : EqSSaid v.kids) : EqSaid v := by
  intro A A2 cap cap2 w hn hat hat2
  rw [V.nodes_eq] at hn
  have HK := fun (c c2 : Nat) (w' : World) (h1 : Vs.at_ w' 0 w'.heap.size v.kids A) (h2 : Vs.at_ w' 0 w'.heap.size v.kids A2) => hk A A2 c c2 w' (by omega) h1 h2
  have HC := Lib.hid HK
  clear HK hk
  have HA := Lib.hid hat
  have HA2 := Lib.hid hat2
  clear hat hat2
  unfold V.agg
  go_enter Tryd.func17, Tryd.ntmps17
  go_wp2_with fail
  refine (HC.out _ _ _ (Vs.at_more (Nat.le_refl _) (by simp; omega) _ _ (Vs.at_alloc (Vs.at_alloc HA.out (Nat.le_refl _) _) (by simp) _)) (Vs.at_more (Nat.le_refl _) (by simp; omega) _ _ (Vs.at_alloc (Vs.at_alloc HA2.out (Nat.le_refl _) _) (by simp) _))).mono ?_
  rintro e w1 ⟨rfl, hb1⟩
  have hbw : Below w.heap.size w w1 := (((Below.refl _ w).alloc (Nat.le_refl _) _).alloc (by simp) _).trans (hb1.mono (by simp; omega))
  go_wp2_with fail
  go_ret
  exact ⟨rfl, hbw⟩

set_option maxHeartbeats 1000000 in
theorem eqS_step (l : List V) (hk : ∀ i (h : i < l.length), EqSaid l[i]) : EqSSaid l := by
  intro A A2 cap cap2 w hn hat hat2
  have hl : l.length ≤ 1048576 := by have := Vs.len_nodes l; omega
  have HK := fun (i : Nat) (h : i < l.length) (A' A2' : Option Addr) (c c2 : Nat) (w' : World) (h1 : Vs.at_ w' 0 w'.heap.size (l[i]).kids A') (h2 : Vs.at_ w' 0 w'.heap.size (l[i]).kids A2') => hk i h A' A2' c c2 w' (by have := Vs.nodes_get i h; omega) h1 h2
  have HC := Lib.hid HK
  clear HK hk
  have HA := Lib.hid hat
  have HA2 := Lib.hid hat2
  clear hat hat2
  go_enter Tryd.func33, Tryd.ntmps33
  go_wp2_with fail
  go_loopw [5] (fun i wr => ∃ j : Nat, j ≤ l.length ∧ i = .int .i64 j ∧ Below w.heap.size w wr) (fun i _ => l.length - (intOf i).toNat)
  case atStart => exact ⟨0, Nat.zero_le _, rfl, Below.refl _ _⟩
  case round =>
    obtain ⟨j, hj, rfl, hb⟩ := hrel
    by_cases hlt : j < l.length
    · have hat1 := Vs.at_below HA.out hb (Nat.le_refl _)
      have hat2 := Vs.at_below HA2.out hb (Nat.le_refl _)
      obtain ⟨b, off, A', cap', rfl, g1, g2, g3, ⟨c0, c1, c2, c3, c4⟩, g5⟩ := Vs.at_get j hlt hat1
      obtain ⟨b2, off2, A2', cap2', rfl, g12, g22, g32, ⟨d0, d1, d2, d3, d4⟩, g52⟩ := Vs.at_get j hlt hat2
      clear hat1 hat2
      go_wp2_with fail
      go_still_tail 8, (by kernel_rfl)
      change wpList _ _ _ _ _ wr.drew
      go_wp2_with fail
      refine (HC.out j hlt A' A2' cap' cap2' wr.drew (Vs.at_more (Nat.le_refl _) hb.size _ _ (Vs.at_drew g5)) (Vs.at_more (Nat.le_refl _) hb.size _ _ (Vs.at_drew g52))).mono ?_
      rintro e w1 ⟨rfl, hb1⟩
      have hbw : Below w.heap.size w w1 := hb.drew.trans (hb1.mono hb.size)
      clear c0 c1 c2 c3 c4 d0 d1 d2 d3 d4
      go_wp2_with fail
      go_roundw
      case rel => exact ⟨j + 1, by omega, by go_num, hbw⟩
      case measure => simp [intOf]; omega
    · obtain rfl : j = l.length := by omega
      go_wp2_with fail
      go_ret
      exact ⟨rfl, hb⟩

theorem eq_all : ∀ (N : Nat), (∀ l : List V, Vs.nodes l ≤ N → EqSSaid l) := by
  intro N
  induction N with
  | zero =>
    intro l h
    refine eqS_step l fun i hi => ?_
    have h1 := Vs.nodes_get i hi
    have h2 := V.nodes_pos l[i]
    omega
  | succ N ih =>
    intro l h
    refine eqS_step l fun i hi => eq_step _ (ih _ ?_)
    have h1 := Vs.nodes_get i hi
    rw [V.nodes_eq] at h1
    omega
theorem eqValue_any (v : V) : EqSaid v := eq_step v (eq_all _ _ (Nat.le_refl _))
end Go.Proofs.YtbflkcldjjpioaaDoor

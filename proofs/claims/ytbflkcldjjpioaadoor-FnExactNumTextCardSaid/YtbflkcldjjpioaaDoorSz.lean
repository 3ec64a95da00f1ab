/-
  The laws' own measure of a value.
-/
import Derived.Test.YtbflkcldjjpioaaDoorTree
namespace Go.Proofs.YtbflkcldjjpioaaDoor
open Go.RowKit
set_option linter.unusedVariables false
set_option maxRecDepth 100000

def SzSaid (v : V) : Prop := ∀ (A : Option Addr) (cap : Nat) (L : Int) (w : World), 0 ≤ L → L ≤ 1048576 → V.fits v → Vs.at_ w 0 w.heap.size v.kids A →
    Calls Tryd.prog 13 #[v.agg A cap, .int .i64 L] w fun e w' => e = .returned (.int .i64 (szR L v.weight)) ∧ Below w.heap.size w w'
def SzSSaid (l : List V) : Prop := ∀ (A : Option Addr) (cap : Nat) (L : Int) (w : World), 0 ≤ L → L ≤ 1048576 → l.length ≤ 9223372036854775807 → Vs.fits l → Vs.at_ w 0 w.heap.size l A →
    Calls Tryd.prog 29 #[.slice A l.length cap, .int .i64 L] w fun e w' => e = .returned (.int .i64 (szR L (Vs.weight l))) ∧ Below w.heap.size w w'

set_option maxHeartbeats 1000000 in
theorem sz_step (v : V) (hk : SzSSaid v.kids) : SzSaid v := by
  intro A cap L w h0 h1 hf hat
  rw [V.fits_eq] at hf
  obtain ⟨f1, f2, f3, _⟩ := hf
  have HW := Lib.hid (V.weight_eq v)
  have HK := fun (c : Nat) (L' : Int) (w' : World) (g0 : 0 ≤ L') (g1 : L' ≤ 1048576) (hat' : Vs.at_ w' 0 w'.heap.size v.kids A) => hk A c L' w' g0 g1 f2 f3 hat'
  have HC := Lib.hid HK
  clear HK hk
  unfold V.agg
  by_cases hs : (v.s.size : Int) ≤ L
  · go_enter Tryd.func13, Tryd.ntmps13
    go_wp2_with fail
    refine (HC.out _ _ _ (by omega) (by omega) (Vs.at_more (Nat.le_refl _) (by simp) _ _ (Vs.at_keep (fun p _ hp => World.cell?_alloc_lt _ _ _ hp) _ _ hat))).mono ?_
    rintro e w1 ⟨rfl, hb1⟩
    have hbw : Below w.heap.size w w1 := ((Below.refl _ w).alloc (Nat.le_refl _) _).trans (hb1.mono (by simp))
    by_cases hw : (Vs.weight v.kids : Int) ≤ L - v.s.size
    · have e1 : szR (L - v.s.size) (Vs.weight v.kids) = L - v.s.size - Vs.weight v.kids := by rw [szR, if_pos hw]
      rw [e1]
      go_wp2_with fail
      go_ret
      exact ⟨ret_eq (by rw [szR, if_pos (by rw [HW.out]; omega), HW.out]; go_num), hbw⟩
    · have e1 : szR (L - v.s.size) (Vs.weight v.kids) = -1 := by rw [szR, if_neg hw]
      rw [e1]
      go_wp2_with fail
      go_ret
      exact ⟨ret_eq (by rw [szR, if_neg (by rw [HW.out]; omega)]; rfl), hbw⟩
  · go_enter Tryd.func13, Tryd.ntmps13
    go_wp2_with fail
    go_ret
    exact ⟨ret_eq (by rw [szR, if_neg (by rw [HW.out]; omega)]; rfl), (Below.refl _ _).alloc (Nat.le_refl _) _⟩

set_option maxHeartbeats 1000000 in
theorem szS_step (l : List V) (hk : ∀ i (h : i < l.length), SzSaid l[i]) : SzSSaid l := by
  intro A cap L w h0 h1 hl hf hat
  have HK := fun (i : Nat) (h : i < l.length) (A' : Option Addr) (c : Nat) (L' : Int) (w' : World) (g0 : 0 ≤ L') (g1 : L' ≤ 1048576) (hat' : Vs.at_ w' 0 w'.heap.size (l[i]).kids A') => hk i h A' c L' w' g0 g1 (Vs.fits_get i h hf) hat'
  have HC := Lib.hid HK
  clear HK hk
  by_cases hs : (l.length : Int) ≤ L
  · go_enter Tryd.func29, Tryd.ntmps29
    go_wp2_with fail
    go_loopw [1, 5] (fun x i wr => ∃ j : Nat, j ≤ l.length ∧ i = .int .i64 j ∧ (Vs.weight (l.take j) : Int) + (l.length - j) ≤ L ∧ x = .int .i64 (L - Vs.weight (l.take j) - (l.length - j)) ∧ Below w.heap.size w wr)
      (fun _ i _ => l.length - (intOf i).toNat)
    case atStart => exact ⟨0, Nat.zero_le _, rfl, by simp [Vs.weight]; omega, by simp [Vs.weight], Below.refl _ _⟩
    case round =>
      obtain ⟨j, hj, rfl, hle, rfl, hb⟩ := hrel
      by_cases hlt : j < l.length
      · obtain ⟨b, off, A', cap', rfl, g1, g2, g3, ⟨c0, c1, c2, c3, c4⟩, g5⟩ := Vs.at_get j hlt (Vs.at_below hat hb (Nat.le_refl _))
        have hst := Vs.weight_step l j hlt
        have hwl := Vs.weight_len l (j + 1)
        have HST := Lib.hid hst
        clear hst
        go_wp2_with fail
        refine (HC.out j hlt A' cap' _ _ (by omega) (by omega) (Vs.at_more (Nat.le_refl _) hb.size _ _ g5)).mono ?_
        rintro e w1 ⟨rfl, hb1⟩
        have hbw : Below w.heap.size w w1 := hb.trans (hb1.mono hb.size)
        by_cases hw : ((l[j]).weight : Int) ≤ L - Vs.weight (l.take j) - (l.length - j)
        · have e1 : szR (L - Vs.weight (l.take j) - (l.length - j)) (l[j]).weight = L - Vs.weight (l.take j) - (l.length - j) - (l[j]).weight := by rw [szR, if_pos hw]
          rw [e1]
          clear e1 c0 c1 c2 c3 c4
          go_wp2_with fail
          go_roundw
          case rel => exact ⟨j + 1, by omega, by go_num, by rw [HST.out]; omega, by rw [HST.out]; go_num, hbw⟩
          case measure => simp [intOf]; omega
        · have e1 : szR (L - Vs.weight (l.take j) - (l.length - j)) (l[j]).weight = -1 := by rw [szR, if_neg hw]
          rw [e1]
          clear e1 c0 c1 c2 c3 c4
          go_wp2_with fail
          go_ret
          exact ⟨ret_eq (by rw [szR, if_neg (by have := HST.out; omega)]; rfl), hbw⟩
      · obtain rfl : j = l.length := by omega
        go_wp2_with fail
        go_ret
        exact ⟨ret_num (by rw [List.take_length] at *; rw [szR, if_pos (by omega)]; omega), hb⟩
  · have hll := Vs.len_le l
    go_enter Tryd.func29, Tryd.ntmps29
    go_wp2_with fail
    go_ret
    exact ⟨ret_eq (by rw [szR, if_neg (by omega)]; rfl), Below.refl _ _⟩

theorem sz_all : ∀ (N : Nat), (∀ l : List V, Vs.nodes l ≤ N → SzSSaid l) := by
  intro N
  induction N with
  | zero =>
    intro l h
    refine szS_step l fun i hi => ?_
    have h1 := Vs.nodes_get i hi
    have h2 := V.nodes_pos l[i]
    omega
  | succ N ih =>
    intro l h
    refine szS_step l fun i hi => sz_step _ (ih _ ?_)
    have h1 := Vs.nodes_get i hi
    rw [V.nodes_eq] at h1
    omega
/-- The measure of a value. -/
theorem szValue_any (v : V) : SzSaid v := sz_step v (sz_all _ _ (Nat.le_refl _))
end Go.Proofs.YtbflkcldjjpioaaDoor

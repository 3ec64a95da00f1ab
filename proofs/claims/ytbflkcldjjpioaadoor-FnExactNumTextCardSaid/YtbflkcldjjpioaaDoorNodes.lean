/-
  Nodes: how many values there are in a value; a walk over a value, node by node.
-/
import Derived.Test.YtbflkcldjjpioaaDoorTree
namespace Go.Proofs.YtbflkcldjjpioaaDoor
open Go.RowKit
set_option linter.unusedVariables false
set_option maxRecDepth 100000
set_option linter.unusedSimpArgs false

theorem Vs.nodes_snoc (l : List V) (v : V) : Vs.nodes (l ++ [v]) = Vs.nodes l + v.nodes := by
  induction l with
  | nil => simp [Vs.nodes]
  | cons a l ih => simp only [List.cons_append, Vs.nodes, ih]; omega
theorem Vs.nodes_step (l : List V) (i : Nat) (h : i < l.length) : Vs.nodes (l.take (i + 1)) = Vs.nodes (l.take i) + (l[i]).nodes := by
  rw [List.take_succ_eq_append_getElem h, Vs.nodes_snoc]
theorem Vs.nodes_take (l : List V) : ∀ i, Vs.nodes (l.take i) ≤ Vs.nodes l := by
  induction l with
  | nil => intro i; simp
  | cons a l ih =>
    intro i
    cases i with
    | zero => simp [Vs.nodes]
    | succ i => simp only [List.take_succ_cons, Vs.nodes]; have := ih i; omega

def SpecNodesSaid (v : V) : Prop := ∀ (A : Option Addr) (cap : Nat) (w : World), v.nodes ≤ 1048577 → Vs.at_ w 0 w.heap.size v.kids A →
    Calls Tryd.prog 61 #[v.agg A cap] w fun e w' => e = .returned (.int .i64 v.nodes) ∧ Below w.heap.size w w'

set_option maxHeartbeats 1000000 in
theorem specNodes_step (v : V) (hk : ∀ i (h : i < v.kids.length), SpecNodesSaid v.kids[i]) : SpecNodesSaid v := by
  intro A cap w hn hat
  have HD := Lib.hid (V.nodes_eq v)
  rw [V.nodes_eq] at hn
  have hl : v.kids.length ≤ 1048576 := by have := Vs.len_nodes v.kids; omega
  have HK := fun (i : Nat) (h : i < v.kids.length) (A' : Option Addr) (c : Nat) (w' : World) (h1 : Vs.at_ w' 0 w'.heap.size (v.kids[i]).kids A') => hk i h A' c w' (by have := Vs.nodes_get i h; omega) h1
  have HC := Lib.hid HK
  clear HK hk
  have HA := Lib.hid hat
  clear hat
  unfold V.agg
  go_enter Tryd.func61, Tryd.ntmps61
  go_wp2_with fail
  go_loopw [3, 4] (fun d i wr => ∃ j : Nat, j ≤ v.kids.length ∧ i = .int .i64 j ∧ d = .int .i64 ((Vs.nodes (v.kids.take j) : Int) + 1) ∧ Blk wr w.heap.size 34 #[.int .i64 v.k, .int .i64 v.n, .int .i64 v.e, .string v.s, .slice A v.kids.length cap] ∧ Below w.heap.size w wr) (fun _ i _ => v.kids.length - (intOf i).toNat)
  case atStart => exact ⟨0, Nat.zero_le _, rfl, rfl, Blk.new _ _ _, (Below.refl _ _).alloc (Nat.le_refl _) _⟩
  case round =>
    obtain ⟨j, hj, rfl, rfl, B, hb⟩ := hrel
    have b4 : wr.cell? ⟨w.heap.size, 4, none⟩ = some (.slice A v.kids.length cap) := B.cell 4
    by_cases hlt : j < v.kids.length
    · have hst := Vs.nodes_step v.kids j hlt
      have hd4 := Vs.nodes_take v.kids j
      have hd5 := Vs.nodes_get j hlt
      have HST := Lib.hid hst
      clear hst
      obtain ⟨b, off, A', cap', rfl, g1, g2, g3, ⟨c0, c1, c2, c3, c4⟩, g5⟩ := Vs.at_get j hlt (Vs.at_below HA.out hb (Nat.le_refl _))
      go_wp2_with fail
      refine (HC.out j hlt A' cap' _ (Vs.at_more (Nat.le_refl _) hb.size _ _ g5)).mono ?_
      rintro e w1 ⟨rfl, hb1⟩
      have hbw : Below w.heap.size w w1 := hb.trans (hb1.mono hb.size)
      have B' := B.below hb1 B.lt
      clear c0 c1 c2 c3 c4 b4
      go_wp2_with fail
      go_roundw
      case rel => exact ⟨j + 1, by omega, by go_num, by rw [HST.out]; go_num, B', hbw⟩
      case measure => simp [intOf]; omega
    · obtain rfl : j = v.kids.length := by omega
      go_wp2_with fail
      go_ret
      exact ⟨ret_num (by rw [HD.out, List.take_length]; omega), hb⟩
theorem specNodes : ∀ v, SpecNodesSaid v := V.all specNodes_step
end Go.Proofs.YtbflkcldjjpioaaDoor

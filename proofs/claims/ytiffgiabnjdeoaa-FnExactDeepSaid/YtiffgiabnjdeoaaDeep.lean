/-
  Deep: how many kids deep a value is.
-/
import Derived.Test.YtiffgiabnjdeoaaTree
namespace Go.Proofs.Ytiffgiabnjdeoaa
open Go.RowKit
set_option linter.unusedVariables false
set_option linter.unusedSimpArgs false

mutual
def V.deep : V → Nat
  | .mk _ _ _ _ ks => Vs.deep ks
def Vs.deep : List V → Nat
  | [] => 0
  | v :: r => max (v.deep + 1) (Vs.deep r)
end
theorem V.deep_eq (v : V) : v.deep = Vs.deep v.kids := by cases v; simp [V.deep, V.kids]
theorem Vs.deep_snoc (l : List V) (v : V) : Vs.deep (l ++ [v]) = max (Vs.deep l) (v.deep + 1) := by
  induction l with
  | nil => simp [Vs.deep]
  | cons a l ih => simp only [List.cons_append, Vs.deep, ih]; omega
theorem Vs.deep_step (l : List V) (i : Nat) (h : i < l.length) : Vs.deep (l.take (i + 1)) = max (Vs.deep (l.take i)) ((l[i]).deep + 1) := by
  rw [List.take_succ_eq_append_getElem h, Vs.deep_snoc]
mutual
theorem V.deep_le : ∀ v : V, v.deep + 1 ≤ v.nodes
  | .mk _ _ _ _ ks => by simp only [V.deep, V.nodes]; have := Vs.deep_le ks; omega
theorem Vs.deep_le : ∀ l : List V, Vs.deep l ≤ Vs.nodes l
  | [] => by simp [Vs.deep]
  | v :: r => by simp only [Vs.deep, Vs.nodes]; have h1 := V.deep_le v; have h2 := Vs.deep_le r; omega
end
theorem Vs.nodes_take (l : List V) : ∀ i, Vs.nodes (l.take i) ≤ Vs.nodes l := by
  induction l with
  | nil => intro i; simp
  | cons a l ih =>
    intro i
    cases i with
    | zero => simp [Vs.nodes]
    | succ i => simp only [List.take_succ_cons, Vs.nodes]; have := ih i; omega

def SpecDeepSaid (v : V) : Prop := ∀ (A : Option Addr) (cap : Nat) (w : World), v.nodes ≤ 1048577 → Vs.at_ w 0 w.heap.size v.kids A →
    Calls Try.prog 28 #[v.agg A cap] w fun e w' => e = .returned (.int .i64 v.deep) ∧ Below w.heap.size w w'

set_option maxHeartbeats 1000000 in
theorem specDeep_step (v : V) (hk : ∀ i (h : i < v.kids.length), SpecDeepSaid v.kids[i]) : SpecDeepSaid v := by
  intro A cap w hn hat
  have HD := Lib.hid (V.deep_eq v)
  rw [V.nodes_eq] at hn
  have hl : v.kids.length ≤ 1048576 := by have := Vs.len_nodes v.kids; omega
  have HK := fun (i : Nat) (h : i < v.kids.length) (A' : Option Addr) (c : Nat) (w' : World) (h1 : Vs.at_ w' 0 w'.heap.size (v.kids[i]).kids A') => hk i h A' c w' (by have := Vs.nodes_get i h; omega) h1
  have HC := Lib.hid HK
  clear HK hk
  have HA := Lib.hid hat
  clear hat
  unfold V.agg
  go_enter Try.func28, Try.ntmps28
  go_wp2_with fail
  go_loopw [3, 4] (fun d i wr => ∃ j : Nat, j ≤ v.kids.length ∧ i = .int .i64 j ∧ d = .int .i64 (Vs.deep (v.kids.take j)) ∧ Blk wr w.heap.size 44 #[.int .i64 v.k, .int .i64 v.n, .int .i64 v.e, .string v.s, .slice A v.kids.length cap] ∧ Below w.heap.size w wr) (fun _ i _ => v.kids.length - (intOf i).toNat)
  case atStart => exact ⟨0, Nat.zero_le _, rfl, rfl, Blk.new _ _ _, (Below.refl _ _).alloc (Nat.le_refl _) _⟩
  case round =>
    obtain ⟨j, hj, rfl, rfl, B, hb⟩ := hrel
    have b4 : wr.cell? ⟨w.heap.size, 4, none⟩ = some (.slice A v.kids.length cap) := B.cell 4
    by_cases hlt : j < v.kids.length
    · have hst := Vs.deep_step v.kids j hlt
      have hd1 := V.deep_le v.kids[j]
      have hd2 := Vs.nodes_get j hlt
      have hd3 := Vs.deep_le (v.kids.take j)
      have hd4 := Vs.nodes_take v.kids j
      have HST := Lib.hid hst
      clear hst
      obtain ⟨b, off, A', cap', rfl, g1, g2, g3, ⟨c0, c1, c2, c3, c4⟩, g5⟩ := Vs.at_get j hlt (Vs.at_below HA.out hb (Nat.le_refl _))
      go_wp2_with fail
      refine (HC.out j hlt A' cap' _ (Vs.at_more (Nat.le_refl _) hb.size _ _ g5)).mono ?_
      rintro e w1 ⟨rfl, hb1⟩
      have hbw : Below w.heap.size w w1 := hb.trans (hb1.mono hb.size)
      have B' := B.below hb1 B.lt
      clear c0 c1 c2 c3 c4 b4
      by_cases hm : (Vs.deep (v.kids.take j) : Int) < (v.kids[j]).deep + 1
      · go_wp2_with fail
        go_roundw
        case rel => exact ⟨j + 1, by omega, by go_num, by rw [HST.out]; go_num, B', hbw⟩
        case measure => simp [intOf]; omega
      · go_wp2_with fail
        go_roundw
        case rel => exact ⟨j + 1, by omega, by go_num, by rw [HST.out]; go_num, B', hbw⟩
        case measure => simp [intOf]; omega
    · obtain rfl : j = v.kids.length := by omega
      go_wp2_with fail
      go_ret
      exact ⟨ret_num (by rw [HD.out, List.take_length]), hb⟩
theorem specDeep : ∀ v, SpecDeepSaid v := V.all specDeep_step

def ImplDeepSaid (v : V) : Prop := ∀ (A : Option Addr) (cap : Nat) (w : World), v.nodes ≤ 1048577 → Vs.at_ w 0 w.heap.size v.kids A →
    Calls Try.prog 30 #[v.agg A cap] w fun e w' => e = .returned (.int .i64 v.deep) ∧ Below w.heap.size w w'

set_option maxHeartbeats 1000000 in
theorem implDeep_step (v : V) (hk : ∀ i (h : i < v.kids.length), ImplDeepSaid v.kids[i]) : ImplDeepSaid v := by
  intro A cap w hn hat
  have HD := Lib.hid (V.deep_eq v)
  rw [V.nodes_eq] at hn
  have hl : v.kids.length ≤ 1048576 := by have := Vs.len_nodes v.kids; omega
  have HK := fun (i : Nat) (h : i < v.kids.length) (A' : Option Addr) (c : Nat) (w' : World) (h1 : Vs.at_ w' 0 w'.heap.size (v.kids[i]).kids A') => hk i h A' c w' (by have := Vs.nodes_get i h; omega) h1
  have HC := Lib.hid HK
  clear HK hk
  have HA := Lib.hid hat
  clear hat
  unfold V.agg
  go_enter Try.func30, Try.ntmps30
  go_wp2_with fail
  go_loopw [3, 9] (fun d i wr => ∃ j : Nat, j ≤ v.kids.length ∧ i = .int .i64 j ∧ d = .int .i64 (Vs.deep (v.kids.take j)) ∧ Below w.heap.size w wr) (fun _ i _ => v.kids.length - (intOf i).toNat)
  case atStart => exact ⟨0, Nat.zero_le _, rfl, rfl, (Below.refl _ _).alloc (Nat.le_refl _) _⟩
  case round =>
    obtain ⟨j, hj, rfl, rfl, hb⟩ := hrel
    by_cases hlt : j < v.kids.length
    · have hst := Vs.deep_step v.kids j hlt
      have hd1 := V.deep_le v.kids[j]
      have hd2 := Vs.nodes_get j hlt
      have hd3 := Vs.deep_le (v.kids.take j)
      have hd4 := Vs.nodes_take v.kids j
      have HST := Lib.hid hst
      clear hst
      obtain ⟨b, off, A', cap', rfl, g1, g2, g3, ⟨c0, c1, c2, c3, c4⟩, g5⟩ := Vs.at_get j hlt (Vs.at_below HA.out hb (Nat.le_refl _))
      go_wp2_with fail
      refine (HC.out j hlt A' cap' _ (Vs.at_more (Nat.le_refl _) (by simp; exact Nat.le_succ_of_le hb.size) _ _ (Vs.at_alloc g5 hb.size _))).mono ?_
      rintro e w1 ⟨rfl, hb1⟩
      have hbw : Below w.heap.size w w1 := (hb.alloc hb.size _).trans (hb1.mono (by simp; exact Nat.le_succ_of_le hb.size))
      clear c0 c1 c2 c3 c4
      go_wp2_with fail
      go_roundw
      case rel => exact ⟨j + 1, by omega, by go_num, by rw [HST.out]; congr 1; split <;> omega, hbw⟩
      case measure => simp [intOf]; omega
    · obtain rfl : j = v.kids.length := by omega
      go_wp2_with fail
      go_ret
      exact ⟨ret_num (by rw [HD.out, List.take_length]), hb⟩
theorem implDeep : ∀ v, ImplDeepSaid v := V.all implDeep_step
end Go.Proofs.Ytiffgiabnjdeoaa

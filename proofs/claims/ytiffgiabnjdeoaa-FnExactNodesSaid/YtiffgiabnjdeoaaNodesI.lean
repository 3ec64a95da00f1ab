/-
  The program's Nodes: its walk counts each node.
-/
import Derived.Test.YtiffgiabnjdeoaaWalk
import Derived.Test.YtiffgiabnjdeoaaNodes
import Derived.Test.YtiffgiabnjdeoaaWide
import Derived.OneCell
import Derived.Shelf.Abstract
namespace Go.Proofs.Ytiffgiabnjdeoaa
open Go.RowKit
set_option linter.unusedVariables false
set_option linter.unusedSimpArgs false

mutual
theorem V.pre_len : ∀ v : V, v.pre.length = v.nodes
  | .mk _ _ _ _ ks => by simp only [V.pre, V.nodes, List.length_cons]; rw [Vs.pre_len ks]
theorem Vs.pre_len : ∀ l : List V, (Vs.pre l).length = Vs.nodes l
  | [] => by simp [Vs.pre, Vs.nodes]
  | v :: r => by simp only [Vs.pre, Vs.nodes, List.length_append]; rw [V.pre_len v, Vs.pre_len r]
end
theorem i64of_small (n : Nat) (h : n < 9223372036854775808) : i64of n = (n : Int) := by unfold i64of; rw [wrap64_eq]; omega
theorem i64of_succ (n : Nat) : wrap64 (i64of n + 1) = i64of (n + 1) := by unfold i64of; rw [wrap64_eq, wrap64_eq, wrap64_eq]; omega
theorem Blk.set1 {w : World} {g : Nat} {t : TypeId} {u : Value} (h : Blk w g t #[u]) (u' : Value) : Blk (w.setCell ⟨g, 0, none⟩ u') g t #[u'] := one_setCell h
/-- A store into the one captured variable. -/
theorem keep_set1 {g : Nat} {w : World} {a : World} (h : Keep (fun _ k => k = g) a w) (u : Value) : Keep (fun _ k => k = g) a (w.setCell ⟨g, 0, none⟩ u) :=
  ⟨h.os, h.tape, h.output, by simpa using h.size, fun k hk hd => ⟨(Below.heap_setCell w ⟨g, 0, none⟩ u k (by simpa using hd)).trans (h.block k hk hd).1, hd⟩⟩
theorem keep_alloc1 {g : Nat} {a w : World} (h : Keep (fun _ k => k = g) a w) (o : Obj) : Keep (fun _ k => k = g) a (w.alloc o) :=
  ⟨h.os, h.tape, h.output, Nat.le_trans h.size (by simp), fun k hk hd => ⟨(Below.heap_alloc w o k (Nat.lt_of_lt_of_le hk h.size)).trans (h.block k hk hd).1, hd⟩⟩

set_option maxHeartbeats 1000000 in
theorem nodes_yields (g : Nat) : Yields 46 #[.pointer (some ⟨g, 0, none⟩)] (fun xs w => Blk w g 3 #[.int .i64 (i64of xs.length)]) (fun _ k => k = g) where
  enters := enters_of Try.func46 (by kernel_rfl) rfl
  alloc := fun xs w o h => ⟨h.alloc o, fun k hk => ⟨hk, by subst hk; exact h.lt⟩⟩
  step := by
    intro xs x A c w hi hB hat hhi hD hn
    have hlt := hB.lt
    have HB := Lib.hid hB
    have c0 : (w.alloc (.cells #[.int .i64 x.k, .int .i64 x.n, .int .i64 x.e, .string x.s, .slice A x.kids.length c] 44)).cell? ⟨g, 0, none⟩ = some (.int .i64 (i64of xs.length)) := (hB.alloc _).cell 0
    have f0 : (w.alloc (.cells #[.int .i64 x.k, .int .i64 x.n, .int .i64 x.e, .string x.s, .slice A x.kids.length c] 44)).frozen? ⟨g, 0, none⟩ = false := (hB.alloc _).frozen 0
    clear hB hat hD
    unfold V.agg
    show Calls Try.prog 46 #[_, _] w _
    go_enter Try.func46, Try.ntmps46
    go_wp2_with fail
    go_end0
    refine ⟨rfl, ?_, keep_alloc1 (keep_set1 (Keep.refl w) _) _⟩
    have h := (HB.out.set1 (.int .i64 (i64of (xs ++ [x]).length))).alloc (.cells #[.int .i64 x.k, .int .i64 x.n, .int .i64 x.e, .string x.s, .slice A x.kids.length c] 44)
    rw [i64of_succ]
    simpa using h

set_option maxHeartbeats 1000000 in
theorem implNodes (v : V) (A : Option Addr) (cap : Nat) (w : World) (hn : v.nodes ≤ 1048577) (hat : Vs.at_ w 0 w.heap.size v.kids A) :
    Calls Try.prog 33 #[v.agg A cap] w fun e w' => e = .returned (.int .i64 v.nodes) ∧ Below w.heap.size w w' := by
  have HA := Lib.hid hat
  have HL := Lib.hid (V.pre_len v)
  clear hat
  unfold V.agg
  go_enter Try.func33, Try.ntmps33
  go_wp2_with fail
  have hB := Blk.new (w.alloc (.cells #[.int .i64 v.k, .int .i64 v.n, .int .i64 v.e, .string v.s, .slice A v.kids.length cap] 44)) 3 #[.int .i64 (i64of 0)]
  rw [i64of_zero] at hB
  refine (walk_any (nodes_yields (w.heap.size + 1)) v A cap [] _ w.heap.size (by simpa [i64of_zero] using hB) (Vs.at_alloc (Vs.at_alloc HA.out (Nat.le_refl _) _) (by simp) _) (by simp; omega) (fun k hk => by omega) hn).mono ?_
  rintro e w1 ⟨rfl, hi1, k1⟩
  have c1 := hi1.cell 0
  simp only [List.nil_append] at c1
  rw [HL.out, i64of_small _ (by omega)] at c1
  go_wp2_with fail
  go_ret
  exact ⟨rfl, k1.below (((Below.refl _ w).alloc (Nat.le_refl _) _).alloc (by simp) _) (by simp; omega) (fun k hk => by omega)⟩
end Go.Proofs.Ytiffgiabnjdeoaa

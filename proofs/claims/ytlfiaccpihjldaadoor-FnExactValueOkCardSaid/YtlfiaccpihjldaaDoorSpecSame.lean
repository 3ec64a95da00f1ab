/-
  The reference's Same.
-/
import Derived.Test.YtlfiaccpihjldaaDoorSpecCmp
namespace Go.Proofs.YtlfiaccpihjldaaDoor
open Go.RowKit
set_option linter.unusedVariables false
set_option maxRecDepth 100000
set_option linter.unusedSimpArgs false

/-- Are two values the same? -/
def V.same (a b : V) : Bool := decide (V.cmp a b = 0)

set_option maxHeartbeats 2000000 in
theorem specSame (a b : V) (A B : Option Addr) (ca cb : Nat) (w : World) (hn : a.nodes ≤ 1048577) (hm : b.nodes ≤ 1048577) (hat : Vs.at_ w 0 w.heap.size a.kids A) (hbt : Vs.at_ w 0 w.heap.size b.kids B) :
    Calls Tryd.prog 29 #[a.agg A ca, b.agg B cb] w fun e w' => e = .returned (.bool (V.same a b)) ∧ Below w.heap.size w w' := by
  have HA := Lib.hid hat
  have HB := Lib.hid hbt
  clear hat hbt
  unfold V.agg
  go_enter Tryd.func29, Tryd.ntmps29
  go_wp2_with fail
  obtain ⟨w2, hw2, Ba, Bb, b1, z2⟩ := two_new w 29 29 #[.int .i64 a.k, .int .i64 a.n, .int .i64 a.e, .string a.s, .slice A a.kids.length ca] #[.int .i64 b.k, .int .i64 b.n, .int .i64 b.e, .string b.s, .slice B b.kids.length cb]
  rw [← hw2]
  clear hw2
  refine (specCmp a b A B ca cb w2 hn hm (Vs.at_more (Nat.le_refl _) b1.size _ _ (Vs.at_below HA.out b1 (Nat.le_refl _))) (Vs.at_more (Nat.le_refl _) b1.size _ _ (Vs.at_below HB.out b1 (Nat.le_refl _)))).mono ?_
  rintro e w3 ⟨rfl, hb3⟩
  go_wp2_with fail
  go_ret
  exact ⟨ret_bool (by unfold V.same; rfl), b1.trans (hb3.mono b1.size)⟩
end Go.Proofs.YtlfiaccpihjldaaDoor

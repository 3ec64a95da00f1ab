/-
  heldValue; what lies apart from a change.
-/
import Derived.Test.YtbflkcldjjpioaaHeldWalk
namespace Go.Proofs.Ytbflkcldjjpioaa
open Go.RowKit
set_option linter.unusedVariables false
set_option linter.unusedSimpArgs false

set_option maxHeartbeats 1000000 in
theorem heldValue_any (v : V) (A : Option Addr) (cap k : Nat) (w : World) (F : List Nat) (l : List V) (hll : l.length = v.kids.length) (hk0 : 0 < k) (hkn : k + 4 * Vs.nodes l ≤ 10000000) (hl : Vs.lies w (Vs.mark l k) A F) :
    Calls Try.prog 8 #[v.agg A cap, .int .i64 k] w fun e w' => e = .returned (.int .i64 ((k + 4 * Vs.nodes l : Nat) : Int)) ∧ Below w.heap.size w w' := by
  have hA : ∀ o, Vs.lies (w.alloc o) (Vs.mark l k) A F := fun o => Vs.lies_same hl ⟨by simp, fun c hc => Below.heap_alloc w o c (lies_lt hl c hc)⟩
  have HA := Lib.hid hA
  have HLL := Lib.hid hll
  have HS := Lib.hid (heldS_any l A)
  clear hA hl hll
  unfold V.agg
  go_enter Try.func8, Try.ntmps8
  go_wp2_with fail
  rw [← HLL.out]
  refine (HS.out _ k _ F hk0 hkn (HA.out _)).mono ?_
  rintro e w1 ⟨rfl, hb1⟩
  have hb : Below w.heap.size w w1 := ((Below.refl _ w).alloc (Nat.le_refl _) _).trans (hb1.mono (by simp))
  clear hb1
  go_wp2_with fail
  go_ret
  exact ⟨rfl, hb⟩
theorem lies_touch {w w' : World} {l : List V} {A : Option Addr} {F F' : List Nat} (h : Vs.lies w l A F) (ht : Touch F' w w') (hF : ∀ c ∈ F, c ∉ F') : Vs.lies w' l A F :=
  Vs.lies_same h ⟨ht.size, fun c hc => ht.block c (lies_lt h c hc) (hF c hc)⟩
theorem Blk.touch {w w' : World} {g : Nat} {t : TypeId} {cs : Array Value} {F : List Nat} (h : Blk w g t cs) (ht : Touch F w w') (hF : g ∉ F) : Blk w' g t cs := (ht.block g h.lt hF).trans h
end Go.Proofs.Ytbflkcldjjpioaa

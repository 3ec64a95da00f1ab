/-
  Functions that hold one variable of their maker's; the values in a value counted.
-/
import Derived.Test.YtlfiaccpihjldaaDoorWalk
import Derived.Test.YtlfiaccpihjldaaDoorInt
import Derived.OneCell
import Derived.Shelf.Abstract
namespace Go.Proofs.YtlfiaccpihjldaaDoor
open Go.RowKit
set_option linter.unusedVariables false
set_option linter.unusedSimpArgs false

theorem Blk.set1 {w : World} {g : Nat} {t : TypeId} {u : Value} (h : Blk w g t #[u]) (u' : Value) : Blk (w.setCell ⟨g, 0, none⟩ u') g t #[u'] := one_setCell h
/-- A store into the one captured variable. -/
theorem keep_set1 {g : Nat} {w : World} {a : World} (h : Keep (fun _ k => k = g) a w) (u : Value) : Keep (fun _ k => k = g) a (w.setCell ⟨g, 0, none⟩ u) :=
  ⟨h.os, h.tape, h.output, by simpa using h.size, fun k hk hd => ⟨(Below.heap_setCell w ⟨g, 0, none⟩ u k (by simpa using hd)).trans (h.block k hk hd).1, hd⟩⟩
theorem keep_alloc1 {g : Nat} {a w : World} (h : Keep (fun _ k => k = g) a w) (o : Obj) : Keep (fun _ k => k = g) a (w.alloc o) :=
  ⟨h.os, h.tape, h.output, Nat.le_trans h.size (by simp), fun k hk hd => ⟨(Below.heap_alloc w o k (Nat.lt_of_lt_of_le hk h.size)).trans (h.block k hk hd).1, hd⟩⟩

end Go.Proofs.YtlfiaccpihjldaaDoor

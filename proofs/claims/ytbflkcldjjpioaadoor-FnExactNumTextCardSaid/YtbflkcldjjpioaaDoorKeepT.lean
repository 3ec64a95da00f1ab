/-
  What a call keeps that may write into some blocks alone.
-/
import Derived.Test.YtbflkcldjjpioaaDoorTree
import Derived.OneCell
namespace Go.Proofs.YtbflkcldjjpioaaDoor
open Go.RowKit
set_option linter.unusedVariables false
set_option linter.unusedSimpArgs false

/-- Only blocks of D may have changed, and what is D's behind it was D's or is new. -/
structure Keep (D : World → Nat → Prop) (w w' : World) : Prop where
  os : w'.os = w.os
  tape : w'.tape = w.tape
  output : w'.output = w.output
  size : w.heap.size ≤ w'.heap.size
  block : ∀ k, k < w.heap.size → ¬ D w k → w'.heap[k]? = w.heap[k]? ∧ ¬ D w' k
theorem Keep.trans {D : World → Nat → Prop} {a b c : World} (h : Keep D a b) (k : Keep D b c) : Keep D a c :=
  ⟨k.os.trans h.os, k.tape.trans h.tape, k.output.trans h.output, Nat.le_trans h.size k.size, fun i hi hd => by
    obtain ⟨h1, h2⟩ := h.block i hi hd
    obtain ⟨k1, k2⟩ := k.block i (Nat.lt_of_lt_of_le hi h.size) h2
    exact ⟨k1.trans h1, k2⟩⟩
theorem Keep.refl {D : World → Nat → Prop} (w : World) : Keep D w w := ⟨rfl, rfl, rfl, Nat.le_refl _, fun _ _ h => ⟨rfl, h⟩⟩

theorem Keep.below {D : World → Nat → Prop} {w w0 w1 : World} {B : Nat} (h : Keep D w0 w1) (hb : Below B w w0) (hB : B ≤ w0.heap.size) (hd : ∀ k, k < B → ¬ D w0 k) : Below B w w1 :=
  ⟨h.os.trans hb.os, h.tape.trans hb.tape, h.output.trans hb.output, Nat.le_trans hb.size h.size, fun k hk => (h.block k (Nat.lt_of_lt_of_le hk hB) (hd k hk)).1.trans (hb.block k hk)⟩
theorem Keep.at_ {D : World → Nat → Prop} {w w' : World} (h : Keep D w w') {lo hi : Nat} {l : List V} {A : Option Addr} (ha : Vs.at_ w lo hi l A) (hh : hi ≤ w.heap.size) (hd : ∀ k, k < hi → ¬ D w k) : Vs.at_ w' lo hi l A :=
  Vs.at_keep (fun p _ hp => World.cell?_of_block (h.block p.block (by omega) (hd _ hp)).1) _ _ ha
theorem Keep.blk {D : World → Nat → Prop} {w w' : World} (h : Keep D w w') {g : Nat} {t : TypeId} {cs : Array Value} (hb : Blk w g t cs) (hd : ¬ D w g) : Blk w' g t cs ∧ ¬ D w' g :=
  ⟨(h.block g hb.lt hd).1.trans hb, (h.block g hb.lt hd).2⟩

theorem Blk.set1 {w : World} {g : Nat} {t : TypeId} {u : Value} (h : Blk w g t #[u]) (u' : Value) : Blk (w.setCell ⟨g, 0, none⟩ u') g t #[u'] := one_setCell h
/-- A store into the one captured variable. -/
theorem keep_set1 {g : Nat} {w : World} {a : World} (h : Keep (fun _ k => k = g) a w) (u : Value) : Keep (fun _ k => k = g) a (w.setCell ⟨g, 0, none⟩ u) :=
  ⟨h.os, h.tape, h.output, by simpa using h.size, fun k hk hd => ⟨(Below.heap_setCell w ⟨g, 0, none⟩ u k (by simpa using hd)).trans (h.block k hk hd).1, hd⟩⟩
theorem keep_alloc1 {g : Nat} {a w : World} (h : Keep (fun _ k => k = g) a w) (o : Obj) : Keep (fun _ k => k = g) a (w.alloc o) :=
  ⟨h.os, h.tape, h.output, Nat.le_trans h.size (by simp), fun k hk hd => ⟨(Below.heap_alloc w o k (Nat.lt_of_lt_of_le hk h.size)).trans (h.block k hk hd).1, hd⟩⟩
end Go.Proofs.YtbflkcldjjpioaaDoor

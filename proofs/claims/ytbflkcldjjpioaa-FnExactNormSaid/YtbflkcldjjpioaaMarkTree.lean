/-
  The laws' marks in a tree: markValueS turns a tree whose rows lie apart into the marked tree.
-/
import Derived.Test.YtbflkcldjjpioaaLies
namespace Go.Proofs.Ytbflkcldjjpioaa
open Go.RowKit
set_option linter.unusedVariables false
set_option linter.unusedSimpArgs false

mutual
/-- A value marked from k on. -/
def V.mark : V → Nat → V
  | .mk _ _ _ _ ks, k => .mk k ((k + 1 : Nat) : Int) ((k + 2 : Nat) : Int) (mtext (k + 3)) (Vs.mark ks (k + 4))
def Vs.mark : List V → Nat → List V
  | [], _ => []
  | v :: r, k => v.mark k :: Vs.mark r (k + 4 * v.nodes)
end
theorem V.mark_kids (v : V) (k : Nat) : (v.mark k).kids = Vs.mark v.kids (k + 4) := by cases v; simp [V.mark, V.kids]
theorem V.mark_k (v : V) (k : Nat) : (v.mark k).k = (k : Int) := by cases v; simp [V.mark, V.k]
theorem V.mark_n (v : V) (k : Nat) : (v.mark k).n = ((k + 1 : Nat) : Int) := by cases v; simp [V.mark, V.n]
theorem V.mark_e (v : V) (k : Nat) : (v.mark k).e = ((k + 2 : Nat) : Int) := by cases v; simp [V.mark, V.e]
theorem V.mark_s (v : V) (k : Nat) : (v.mark k).s = mtext (k + 3) := by cases v; simp [V.mark, V.s]
theorem Vs.mark_len (l : List V) : ∀ k, (Vs.mark l k).length = l.length := by
  induction l with
  | nil => intro k; simp [Vs.mark]
  | cons v r ih => intro k; simp [Vs.mark, ih]
theorem Vs.mark_snoc (l : List V) (v : V) : ∀ k, Vs.mark (l ++ [v]) k = Vs.mark l k ++ [v.mark (k + 4 * Vs.nodes l)] := by
  induction l with
  | nil => intro k; simp [Vs.mark, Vs.nodes]
  | cons a l ih =>
    intro k
    simp only [List.cons_append, Vs.mark, ih, Vs.nodes]
    rw [show k + 4 * a.nodes + 4 * Vs.nodes l = k + 4 * (a.nodes + Vs.nodes l) by omega]
/-- The first j values marked. -/
def Vs.markTo (l : List V) (k j : Nat) : List V := Vs.mark (l.take j) k ++ l.drop j
theorem Vs.markTo_len (l : List V) (k j : Nat) (h : j ≤ l.length) : (Vs.markTo l k j).length = l.length := by
  unfold Vs.markTo; simp [Vs.mark_len]; omega
theorem Vs.markTo_get (l : List V) (k j : Nat) (h : j < l.length) (h' : j < (Vs.markTo l k j).length) : (Vs.markTo l k j)[j] = l[j] := by
  have hl : (Vs.mark (l.take j) k).length = j := by rw [Vs.mark_len, List.length_take]; omega
  have h2 : (Vs.markTo l k j)[j]? = some l[j] := by
    unfold Vs.markTo
    rw [List.getElem?_append_right (by omega), hl, Nat.sub_self, List.getElem?_drop, Nat.add_zero, List.getElem?_eq_getElem h]
  rw [List.getElem?_eq_getElem h'] at h2
  exact Option.some.inj h2
theorem Vs.markTo_next (l : List V) (k j : Nat) (h : j < l.length) : (Vs.markTo l k j).set j (l[j].mark (k + 4 * Vs.nodes (l.take j))) = Vs.markTo l k (j + 1) := by
  unfold Vs.markTo
  have hl : (Vs.mark (l.take j) k).length = j := by rw [Vs.mark_len, List.length_take]; omega
  rw [List.set_append_right _ _ (by omega), hl, Nat.sub_self, List.drop_eq_getElem_cons h, List.set_cons_zero, List.take_succ_eq_append_getElem h, Vs.mark_snoc]
  simp
theorem Vs.markTo_all (l : List V) (k : Nat) : Vs.markTo l k l.length = Vs.mark l k := by unfold Vs.markTo; simp
theorem Vs.markTo_none (l : List V) (k : Nat) : Vs.markTo l k 0 = l := by unfold Vs.markTo; simp [Vs.mark]

/-- Only blocks of F have changed. -/
structure Touch (F : List Nat) (w w' : World) : Prop where
  os : w'.os = w.os
  tape : w'.tape = w.tape
  output : w'.output = w.output
  size : w.heap.size ≤ w'.heap.size
  block : ∀ c, c < w.heap.size → c ∉ F → w'.heap[c]? = w.heap[c]?
theorem Touch.refl (F : List Nat) (w : World) : Touch F w w := ⟨rfl, rfl, rfl, Nat.le_refl _, fun _ _ _ => rfl⟩
theorem Touch.trans {F : List Nat} {a b c : World} (h : Touch F a b) (k : Touch F b c) : Touch F a c :=
  ⟨k.os.trans h.os, k.tape.trans h.tape, k.output.trans h.output, Nat.le_trans h.size k.size, fun i hi hf => (k.block i (Nat.lt_of_lt_of_le hi h.size) hf).trans (h.block i hi hf)⟩
theorem Touch.more {F G : List Nat} {a b : World} (h : Touch F a b) (hs : ∀ c ∈ F, c ∈ G) : Touch G a b :=
  ⟨h.os, h.tape, h.output, h.size, fun i hi hf => h.block i hi fun h' => hf (hs i h')⟩
theorem Touch.of_below {F : List Nat} {a b : World} (h : Below a.heap.size a b) : Touch F a b := ⟨h.os, h.tape, h.output, h.size, fun i hi _ => h.block i hi⟩
theorem Touch.set {F : List Nat} {a b : World} (h : Touch F a b) {p : Addr} (hp : p.block ∈ F) (u : Value) : Touch F a (b.setCell p u) :=
  ⟨h.os, h.tape, h.output, by simpa using h.size, fun i hi hf => (Below.heap_setCell b p u i (fun e => hf (by rw [e]; exact hp))).trans (h.block i hi hf)⟩

/-- How one value of a row is marked. -/
theorem mark_round {w : World} {b : Nat} {l : List V} {k j : Nat} {G : List Nat} (h : j < l.length) (hc : Vs.cells w b 0 (Vs.markTo l k j) G) :
    ∃ A' cap G1 Gj G2, G = G1 ++ (Gj ++ G2) ∧ CellsAt w b (j * 5) l[j] A' cap ∧ Vs.lies w (l[j]).kids A' Gj ∧
      ∀ w' : World, CellsAt w' b (j * 5) (l[j].mark (k + 4 * Vs.nodes (l.take j))) A' cap → Vs.lies w' (Vs.mark (l[j]).kids (k + 4 * Vs.nodes (l.take j) + 4)) A' Gj →
        (∀ q, (q < j * 5 ∨ j * 5 + 5 ≤ q) → w'.cell? ⟨b, q, none⟩ = w.cell? ⟨b, q, none⟩) → SameIn (G1 ++ G2) w w' → Vs.cells w' b 0 (Vs.markTo l k (j + 1)) G := by
  have hl : j < (Vs.markTo l k j).length := by rw [Vs.markTo_len l k j (Nat.le_of_lt h)]; exact h
  obtain ⟨A', cap, G1, Gj, G2, h1, h2, h3, h4, h5⟩ := Vs.cells_at (Vs.markTo l k j) 0 G j hl hc
  rw [Vs.markTo_get l k j h hl] at h2 h3 h4 h5
  rw [Nat.zero_add] at h3 h5
  refine ⟨A', cap, G1, Gj, G2, h1, h3, V.lies_kids.1 h4, fun w' k1 k2 k3 k4 => ?_⟩
  rw [← Vs.markTo_next l k j h]
  exact h5 w' _ (by rw [V.mark_kids, Vs.mark_len]) k1 (V.lies_kids.2 (by rw [V.mark_kids]; exact k2)) k3 k4
theorem Touch.below {F : List Nat} {w w' : World} (h : Touch F w w') {B : Nat} (hB : B ≤ w.heap.size) (hF : ∀ c ∈ F, B ≤ c) : Below B w w' :=
  ⟨h.os, h.tape, h.output, h.size, fun k hk => h.block k (Nat.lt_of_lt_of_le hk hB) (fun hc => by have := hF k hc; omega)⟩
end Go.Proofs.Ytbflkcldjjpioaa

/-
  The order of two values, plainly.
-/
import Derived.Test.YtbflkcldjjpioaaDoorLess
namespace Go.Proofs.YtbflkcldjjpioaaDoor
open Go.RowKit
set_option linter.unusedVariables false
set_option maxRecDepth 100000
set_option linter.unusedSimpArgs false

theorem two_new (w : World) (t u : TypeId) (cs ds : Array Value) : ∃ w2, w2 = (w.alloc (.cells cs t)).alloc (.cells ds u) ∧ Blk w2 w.heap.size t cs ∧ Blk w2 (w.heap.size + 1) u ds ∧ Below w.heap.size w w2 ∧ w2.heap.size = w.heap.size + 2 :=
  ⟨_, rfl, (Blk.new w t cs).alloc _, by simpa using Blk.new (w.alloc (.cells cs t)) u ds, ((Below.refl _ w).alloc (Nat.le_refl _) _).alloc (by simp) _, by simp⟩
/-- What is compared ahead of the kids. -/
def ordAt (a b : V) : Nat → Int
  | 0 => lessI a.k b.k
  | 1 => lessI a.n b.n
  | 2 => lessI a.e b.e
  | 3 => lessT a.s b.s
  | _ => lessI a.kids.length b.kids.length
/-- The order of two values but for their kids. -/
def V.ord (a b : V) : Int := orN (ordAt a b) 5
theorem V.ord_len {a b : V} (h : V.ord a b = 0) : a.kids.length = b.kids.length := by
  have h1 := lessI_zero (orN_all _ 5 h 4 (by omega))
  omega
/-- The five numbers that are compared. -/
def ordCells (a b : V) : Array Value := #[.int .i64 (ordAt a b 0), .int .i64 (ordAt a b 1), .int .i64 (ordAt a b 2), .int .i64 (ordAt a b 3), .int .i64 (ordAt a b 4)]
theorem ordCells_at {w : World} {g : Nat} {t : TypeId} {a b : V} (h : Blk w g t (ordCells a b)) (j : Nat) (hj : j < 5) : w.cell? ⟨g, j, none⟩ = some (.int .i64 (ordAt a b j)) := by
  rw [h.cell j]
  unfold ordCells
  rcases (show j = 0 ∨ j = 1 ∨ j = 2 ∨ j = 3 ∨ j = 4 by omega) with rfl | rfl | rfl | rfl | rfl <;> rfl

mutual
/-- The order of two values. -/
def V.cmp : V → V → Int
  | .mk k n e s ks, b => if V.ord (.mk k n e s ks) b = 0 then Vs.cmp ks b.kids else V.ord (.mk k n e s ks) b
def Vs.cmp : List V → List V → Int
  | [], _ => 0
  | a :: r, l => match l with
    | [] => 0
    | b :: t => if V.cmp a b = 0 then Vs.cmp r t else V.cmp a b
end
theorem V.cmp_zero {a b : V} (h : V.ord a b = 0) : V.cmp a b = Vs.cmp a.kids b.kids := by
  cases a
  unfold V.cmp
  rw [if_pos h]
  rfl
theorem V.cmp_ord {a b : V} (h : V.ord a b ≠ 0) : V.cmp a b = V.ord a b := by
  cases a
  unfold V.cmp
  rw [if_neg h]
theorem Vs.cmp_cons (a b : V) (r t : List V) : Vs.cmp (a :: r) (b :: t) = if V.cmp a b = 0 then Vs.cmp r t else V.cmp a b := by simp only [Vs.cmp]
theorem Vs.cmp_nil (l : List V) : Vs.cmp l [] = 0 := by cases l <;> simp only [Vs.cmp]
/-- Lists of which the first j values are alike. -/
theorem Vs.cmp_first : ∀ (l m : List V) (j : Nat) (hl : j < l.length) (hm : j < m.length), (∀ i (h1 : i < l.length) (h2 : i < m.length), i < j → V.cmp l[i] m[i] = 0) → V.cmp l[j] m[j] ≠ 0 → Vs.cmp l m = V.cmp l[j] m[j]
  | a :: r, b :: t, 0, hl, hm, h, h0 => by
    rw [Vs.cmp_cons, if_neg (by simpa using h0)]
    rfl
  | a :: r, b :: t, j + 1, hl, hm, h, h0 => by
    rw [Vs.cmp_cons, if_pos (show V.cmp a b = 0 from h 0 (by simp) (by simp) (by omega))]
    exact Vs.cmp_first r t j (by simpa using hl) (by simpa using hm) (fun i h1 h2 hi => h (i + 1) (by simpa using h1) (by simpa using h2) (by omega)) (by simpa using h0)
theorem Vs.cmp_none : ∀ (l m : List V), (∀ i (h1 : i < l.length) (h2 : i < m.length), V.cmp l[i] m[i] = 0) → Vs.cmp l m = 0
  | [], _, _ => by unfold Vs.cmp; rfl
  | a :: r, [], _ => Vs.cmp_nil _
  | a :: r, b :: t, h => by
    rw [Vs.cmp_cons, if_pos (show V.cmp a b = 0 from h 0 (by simp) (by simp))]
    exact Vs.cmp_none r t (fun i h1 h2 => h (i + 1) (by simpa using h1) (by simpa using h2))
/-- Are two values the same? -/
def V.same (a b : V) : Bool := decide (V.cmp a b = 0)
end Go.Proofs.YtbflkcldjjpioaaDoor

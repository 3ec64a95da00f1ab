/-
  A right value, plainly.
-/
import Derived.Test.YtbflkcldjjpioaaDoorNodes
import Derived.Test.YtbflkcldjjpioaaDoorRunes
import Derived.Test.YtbflkcldjjpioaaDoorInt
namespace Go.Proofs.YtbflkcldjjpioaaDoor
open Go.RowKit
set_option linter.unusedVariables false

/-- A number of 64 bits. -/
def inR (n : Int) : Prop := -9223372036854775808 ≤ n ∧ n ≤ 9223372036854775807
instance (n : Int) : Decidable (inR n) := by unfold inR; infer_instance
/-- A number ten times, so often, as long as it is one of 64 bits. -/
def tens : Int → Nat → Option Int
  | n, 0 => some n
  | n, k + 1 => if inR (n * 10) then tens (n * 10) k else none
theorem tens_zero : ∀ k, tens 0 k = some 0
  | 0 => rfl
  | k + 1 => by unfold tens; rw [Int.zero_mul, if_pos (by unfold inR; omega)]; exact tens_zero k
/-- A right decimal number. -/
def decOk (n e : Int) : Prop := -20 ≤ e ∧ e ≤ 20 ∧ e ≠ 0 ∧ -999999999999999999 ≤ n ∧ n ≤ 999999999999999999 ∧ Int.tmod n 10 ≠ 0 ∧ (0 < e → tens n e.toNat = none)
instance (n e : Int) : Decidable (decOk n e) := by unfold decOk; infer_instance
/-- Two keys are one, by what the reference compares. -/
def keyEq (a b : V) : Prop := a.k = b.k ∧ a.n = b.n ∧ a.s = b.s
instance (a b : V) : Decidable (keyEq a b) := by unfold keyEq; infer_instance
def isKeyB (v : V) : Bool := decide (v.k = 5 ∨ v.k = 3)
/-- Keys at even places, no two of them one. -/
def pairsTo (R : V → V → Prop) (l : List V) (m : Nat) : Prop := ∀ i (h : i < l.length), i < m → i % 2 = 0 → isKeyB l[i] = true ∧ ∀ k (hk : k < i), k % 2 = 0 → ¬ R (l[k]'(by omega)) l[i]
def pairsOk (l : List V) : Prop := pairsTo keyEq l l.length ∧ l.length % 2 = 0 ∧ l.length ≤ 300
/-- What a value is but for its kids. -/
def nodeOk (v : V) : Prop :=
  if v.k = 0 ∨ v.k = 1 ∨ v.k = 2 ∨ v.k = 7 ∨ v.k = 8 then v.n = 0 ∧ v.e = 0 ∧ v.s.size = 0
  else if v.k = 3 then v.e = 0 ∧ v.s.size = 0
  else if v.k = 4 then decOk v.n v.e ∧ v.s.size = 0
  else if v.k = 5 then v.n = 0 ∧ v.e = 0 ∧ textOk v.s = true ∧ v.s.size ≤ 2000
  else if v.k = 6 then v.n = 0 ∧ v.e = 0 ∧ v.s.size ≤ 2000
  else if v.k = 9 then 0 ≤ v.n ∧ v.n ≤ 1000000 ∧ v.e = 0 ∧ v.s.size = 0
  else False
/-- Its kids, one by one apart. -/
def kidsOk (v : V) : Prop := if v.k = 7 then True else if v.k = 9 then v.kids.length = 1 else if v.k = 8 then pairsOk v.kids else v.kids.length = 0
def ownOk (v : V) : Prop := nodeOk v ∧ kidsOk v
noncomputable instance (p : Prop) : Decidable p := Classical.propDecidable p
mutual
/-- A value is right, at most so many kids deep. -/
def V.right : Int → V → Prop
  | d, .mk k n e s ks => 0 ≤ d ∧ ownOk (.mk k n e s ks) ∧ Vs.right (d - 1) ks
def Vs.right : Int → List V → Prop
  | _, [] => True
  | d, v :: r => V.right d v ∧ Vs.right d r
end
theorem V.right_eq (d : Int) (v : V) : V.right d v ↔ 0 ≤ d ∧ ownOk v ∧ Vs.right (d - 1) v.kids := by cases v; simp [V.right, V.kids]
theorem Vs.right_iff (d : Int) : ∀ l : List V, Vs.right d l ↔ ∀ i (h : i < l.length), V.right d l[i]
  | [] => by simp [Vs.right]
  | v :: r => by
    simp only [Vs.right]
    rw [Vs.right_iff d r]
    constructor
    · rintro ⟨h1, h2⟩ i hi
      cases i with
      | zero => exact h1
      | succ i => exact h2 i (by simpa using hi)
    · intro h
      exact ⟨h 0 (by simp), fun i hi => h (i + 1) (by simpa using hi)⟩
theorem Vs.right_take (d : Int) (l : List V) (h : Vs.right d (l.take l.length)) : Vs.right d l := by rwa [List.take_length] at h
theorem Vs.right_step (d : Int) (l : List V) (j : Nat) (hj : j < l.length) (h : Vs.right d (l.take j)) (hv : V.right d l[j]) : Vs.right d (l.take (j + 1)) := by
  rw [Vs.right_iff] at h ⊢
  intro i hi
  rw [List.length_take] at hi
  by_cases e : i = j
  · subst e; simpa using hv
  · have := h i (by rw [List.length_take]; omega)
    simpa using this
/-- ValueOk. -/
def okV (v : V) : Prop := V.right 12 v ∧ v.nodes ≤ 300

theorem wrap_ten {n : Int} (hn : inR n) : (Int.tdiv (wrap64 (n * 10)) 10 = n) ↔ inR (n * 10) := by
  unfold inR at *
  have hw := wrap64_eq (n * 10)
  constructor
  · intro h
    have h2 := Int.tmod_add_mul_tdiv (wrap64 (n * 10)) 10
    have h3 : -10 < Int.tmod (wrap64 (n * 10)) 10 ∧ Int.tmod (wrap64 (n * 10)) 10 < 10 := by
      constructor
      · have := Int.lt_tmod_of_pos (wrap64 (n * 10)) (show (0 : Int) < 10 by omega); omega
      · exact Int.tmod_lt_of_pos _ (by omega)
    rw [h] at h2
    omega
  · intro h
    rw [show wrap64 (n * 10) = n * 10 by omega, Int.mul_tdiv_cancel _ (by omega)]
end Go.Proofs.YtbflkcldjjpioaaDoor
